/-
  Lemmas (W4 W5 U2 U3 W6 U4 K2 K4 Ax52 Ax54 D2 E1 Ax56 X1 Ax51 X2 X3).
-/
import Derived.Lib.ItoaLen
import Derived.Lib.AppendIntMem
import Derived.WideKeyRuns
import Derived.Test.YtahjbnfbilkbcaaGreatDoorSam7
set_option linter.unusedVariables false
set_option linter.unusedSimpArgs false
/-
  Contract: the writer writes its first cell (program).
-/
namespace Go.Proofs.YtahjbnfbilkbcaaGreatDoor
open Go.AX Go.RowKit Go.Core Go.Scan
set_option maxRecDepth 20000

set_option maxHeartbeats 8000000 in
theorem write_f {a : Option Addr} (ca : Nat) {l : List CellP} {E : World → Prop} {qt : List UInt8 → List UInt8} {it : Int → List UInt8} (V : WEnv a l E qt it) (m : Nat) (hn : m + 1 ≤ 600) (out : List UInt8) (way : List Int) (i j : BSt) (u : Nat) (hi : i.ok out.length) (hj : j.ok way.length) (hu : u < l.length) (hw : way.Nodup) (hr : ∀ x ∈ way, 0 ≤ x ∧ x < (l.length : Int)) (hf : l.length + 2 ≤ m + 1 + way.length) (hM : ¬ 20000 < out.length) :
    SpecH Tryz.prog 51 [.c (.lp 0 0), .c (.v (.int .i64 (u : Int)))] (wH (.slice a l.length ca) (gF a l E) false out i way j) (wR (.slice a l.length ca) (gF a l E) way (writeS 20000 (leafS qt it) (l.map (·.c)) (m + 1) out way u)) := by
  have ih := write_t ca V m
  obtain ⟨p, hp⟩ : ∃ p, l[u]? = some p := ⟨_, List.getElem?_eq_getElem hu⟩
  have hpm := List.mem_of_getElem? hp
  have hsa : a.isSome = true := by
    have := V.ha
    cases a with
    | none => rw [this rfl] at hp; cases hp
    | some b => rfl
  have hat : at_ (l.map (·.c)) (u : Int) = p.c := at_map hp
  have hcd : cellD l.length p.c = true := by
    have := V.val.2.1 p.c (List.mem_map.2 ⟨p, hpm, rfl⟩)
    simpa using this
  have hpo := V.ok p hpm
  have hps := V.sm.2 p hpm
  have hsml := V.sm.1
  have hq4 := V.q p hpm
  have hit := V.i p hpm
  have hql := V.ql
  have hil3 := V.il
  have hsh := V.short
  have htx := cellD_text hcd
  have hk := cellD_kind hcd
  have hwl := way_le hw hr
  obtain ⟨⟨kind, num, text, names, items⟩, na, nc, ia, ic⟩ := p
  simp only at hat hcd hps hq4 hit hk htx
  have hkk : kind = 0 ∨ kind = 1 ∨ kind = 2 ∨ kind = 3 ∨ kind = 4 ∨ kind = 5 ∨ kind = 6 ∨ kind = 7 ∨ kind = 8 := by omega
  rcases hkk with rfl | rfl | rfl | rfl | rfl | rfl | rfl | rfl | rfl
  · -- [110, 105, 108]: the text of the leaf, 0: the kind
    have hwr : writeS 20000 (leafS qt it) (l.map (·.c)) (m + 1) out way u = out ++ ([110, 105, 108]) := by
      unfold writeS
      rw [if_neg hM, hat, if_pos (show isLeaf (Cell.mk 0 num text names items) = true from rfl)]
      rfl
    rw [hwr]
    -- 0: the kind
    refine ownC hm Tryz.func51 (by kernel_rfl) rfl rfl (fun _ _ => wH_ok _ _ _ _ _ _ _) (fun _ _ => Nat.le_refl _) ?_
    (first | refine wX ?_ | exact wZ)
    refine callG (Len_w _ _ way j false out i) [0, 1, 2, 3] rfl ⟨rfl, rfl, rfl, rfl, trivial⟩ rfl fun _ _ => ?_
    (first | refine wX ?_ | exact wZ)
    refine brd_dec (fun h => absurd h (by omega)) (fun _ => ?_)
    (first | refine wX ?_ | exact wZ)
    refine Nd.mk ⟨hsa, by omega, by omega⟩ ?_
    (first | refine wX ?_ | exact wZ)
    refine LdN.agg [.int .i64 0, .int .i64 num, .string (bs text), .slice na names.length nc, .slice ia items.length ic] rfl (fun w hw => hw.2.2.1.1.1) rfl (fun k hk => by rw [Int.toNat_natCast]; exact grC_get l u k hk hp) ?_
    (first | refine wXD ?_ | exact wZD)
    -- [110, 105, 108]: the text of the leaf
    refine callG (WriteString_w _ _ way j false out ([110, 105, 108]) i hi (by first | omega | (simp; omega))) [0, 1, 2, 3] rfl ⟨rfl, rfl, rfl, rfl, trivial⟩ rfl fun i2 hi2 => ?_
    (first | refine wX ?_ | exact wZ)
    exact ⟨(i2, j), ⟨hi2, hj⟩, rfl, by (repeat' (first | exact trivial | exact wkE_refl _ | refine And.intro ?_ ?_))⟩
  · -- [116, 114, 117, 101]: the text of the leaf, 1: the kind
    have hwr : writeS 20000 (leafS qt it) (l.map (·.c)) (m + 1) out way u = out ++ ([116, 114, 117, 101]) := by
      unfold writeS
      rw [if_neg hM, hat, if_pos (show isLeaf (Cell.mk 1 num text names items) = true from rfl)]
      rfl
    rw [hwr]
    -- 1: the kind
    refine ownC hm Tryz.func51 (by kernel_rfl) rfl rfl (fun _ _ => wH_ok _ _ _ _ _ _ _) (fun _ _ => Nat.le_refl _) ?_
    (first | refine wX ?_ | exact wZ)
    refine callG (Len_w _ _ way j false out i) [0, 1, 2, 3] rfl ⟨rfl, rfl, rfl, rfl, trivial⟩ rfl fun _ _ => ?_
    (first | refine wX ?_ | exact wZ)
    refine brd_dec (fun h => absurd h (by omega)) (fun _ => ?_)
    (first | refine wX ?_ | exact wZ)
    refine Nd.mk ⟨hsa, by omega, by omega⟩ ?_
    (first | refine wX ?_ | exact wZ)
    refine LdN.agg [.int .i64 1, .int .i64 num, .string (bs text), .slice na names.length nc, .slice ia items.length ic] rfl (fun w hw => hw.2.2.1.1.1) rfl (fun k hk => by rw [Int.toNat_natCast]; exact grC_get l u k hk hp) ?_
    (first | refine wXD ?_ | exact wZD)
    -- true: which, [116, 114, 117, 101]: the text
    refine DrawN.planQ [0, 3] [1, 2, 4, 5, 6] [(7, 0)] (by decide +kernel) ?_
    (first | refine wX ?_ | exact wZ)
    refine callQ (FormatBool_c true ([116, 114, 117, 101]) (by decide) _) ?_
    (first | refine wX ?_ | exact wZ)
    -- [116, 114, 117, 101]: the text of the leaf
    refine callG (WriteString_w _ _ way j false out ([116, 114, 117, 101]) i hi (by first | omega | (simp; omega))) [0, 1, 2, 3] rfl ⟨rfl, rfl, rfl, rfl, trivial⟩ rfl fun i2 hi2 => ?_
    (first | refine wX ?_ | exact wZ)
    exact ⟨(i2, j), ⟨hi2, hj⟩, rfl, by (repeat' (first | exact trivial | exact wkE_refl _ | refine And.intro ?_ ?_))⟩
  · -- [102, 97, 108, 115, 101]: the text of the leaf, 2: the kind
    have hwr : writeS 20000 (leafS qt it) (l.map (·.c)) (m + 1) out way u = out ++ ([102, 97, 108, 115, 101]) := by
      unfold writeS
      rw [if_neg hM, hat, if_pos (show isLeaf (Cell.mk 2 num text names items) = true from rfl)]
      rfl
    rw [hwr]
    -- 2: the kind
    refine ownC hm Tryz.func51 (by kernel_rfl) rfl rfl (fun _ _ => wH_ok _ _ _ _ _ _ _) (fun _ _ => Nat.le_refl _) ?_
    (first | refine wX ?_ | exact wZ)
    refine callG (Len_w _ _ way j false out i) [0, 1, 2, 3] rfl ⟨rfl, rfl, rfl, rfl, trivial⟩ rfl fun _ _ => ?_
    (first | refine wX ?_ | exact wZ)
    refine brd_dec (fun h => absurd h (by omega)) (fun _ => ?_)
    (first | refine wX ?_ | exact wZ)
    refine Nd.mk ⟨hsa, by omega, by omega⟩ ?_
    (first | refine wX ?_ | exact wZ)
    refine LdN.agg [.int .i64 2, .int .i64 num, .string (bs text), .slice na names.length nc, .slice ia items.length ic] rfl (fun w hw => hw.2.2.1.1.1) rfl (fun k hk => by rw [Int.toNat_natCast]; exact grC_get l u k hk hp) ?_
    (first | refine wXD ?_ | exact wZD)
    -- false: which, [102, 97, 108, 115, 101]: the text
    refine DrawN.planQ [0, 3] [1, 2, 4, 5, 6] [(7, 0)] (by decide +kernel) ?_
    (first | refine wX ?_ | exact wZ)
    refine callQ (FormatBool_c false ([102, 97, 108, 115, 101]) (by decide) _) ?_
    (first | refine wX ?_ | exact wZ)
    -- [102, 97, 108, 115, 101]: the text of the leaf
    refine callG (WriteString_w _ _ way j false out ([102, 97, 108, 115, 101]) i hi (by first | omega | (simp; omega))) [0, 1, 2, 3] rfl ⟨rfl, rfl, rfl, rfl, trivial⟩ rfl fun i2 hi2 => ?_
    (first | refine wX ?_ | exact wZ)
    exact ⟨(i2, j), ⟨hi2, hj⟩, rfl, by (repeat' (first | exact trivial | exact wkE_refl _ | refine And.intro ?_ ?_))⟩
  · -- it num: the text of the leaf, 3: the kind
    have hwr : writeS 20000 (leafS qt it) (l.map (·.c)) (m + 1) out way u = out ++ (it num) := by
      unfold writeS
      rw [if_neg hM, hat, if_pos (show isLeaf (Cell.mk 3 num text names items) = true from rfl)]
      rfl
    rw [hwr]
    -- 3: the kind
    refine ownC hm Tryz.func51 (by kernel_rfl) rfl rfl (fun _ _ => wH_ok _ _ _ _ _ _ _) (fun _ _ => Nat.le_refl _) ?_
    (first | refine wX ?_ | exact wZ)
    refine callG (Len_w _ _ way j false out i) [0, 1, 2, 3] rfl ⟨rfl, rfl, rfl, rfl, trivial⟩ rfl fun _ _ => ?_
    (first | refine wX ?_ | exact wZ)
    refine brd_dec (fun h => absurd h (by omega)) (fun _ => ?_)
    (first | refine wX ?_ | exact wZ)
    refine Nd.mk ⟨hsa, by omega, by omega⟩ ?_
    (first | refine wX ?_ | exact wZ)
    refine LdN.agg [.int .i64 3, .int .i64 num, .string (bs text), .slice na names.length nc, .slice ia items.length ic] rfl (fun w hw => hw.2.2.1.1.1) rfl (fun k hk => by rw [Int.toNat_natCast]; exact grC_get l u k hk hp) ?_
    (first | refine wXD ?_ | exact wZD)
    refine DrawN.planQ [0, 3] [1, 2, 4, 5] [(6, 0)] (by decide +kernel) ?_
    (first | refine wX ?_ | exact wZ)
    refine callQ (hit rfl _ (fun w hw => hw.2.2.1.2)) ?_
    (first | refine wX ?_ | exact wZ)
    have := hil3 num
    -- it num: the text of the leaf
    refine callG (WriteString_w _ _ way j false out (it num) i hi (by first | omega | (simp; omega))) [0, 1, 2, 3] rfl ⟨rfl, rfl, rfl, rfl, trivial⟩ rfl fun i2 hi2 => ?_
    (first | refine wX ?_ | exact wZ)
    exact ⟨(i2, j), ⟨hi2, hj⟩, rfl, by (repeat' (first | exact trivial | exact wkE_refl _ | refine And.intro ?_ ?_))⟩
  · -- [34] ++ qt text ++ [34]: the text of the leaf, 4: the kind
    have hwr : writeS 20000 (leafS qt it) (l.map (·.c)) (m + 1) out way u = out ++ ([34] ++ qt text ++ [34]) := by
      unfold writeS
      rw [if_neg hM, hat, if_pos (show isLeaf (Cell.mk 4 num text names items) = true from rfl)]
      rfl
    rw [hwr]
    -- 4: the kind
    refine ownC hm Tryz.func51 (by kernel_rfl) rfl rfl (fun _ _ => wH_ok _ _ _ _ _ _ _) (fun _ _ => Nat.le_refl _) ?_
    (first | refine wX ?_ | exact wZ)
    refine callG (Len_w _ _ way j false out i) [0, 1, 2, 3] rfl ⟨rfl, rfl, rfl, rfl, trivial⟩ rfl fun _ _ => ?_
    (first | refine wX ?_ | exact wZ)
    refine brd_dec (fun h => absurd h (by omega)) (fun _ => ?_)
    (first | refine wX ?_ | exact wZ)
    refine Nd.mk ⟨hsa, by omega, by omega⟩ ?_
    (first | refine wX ?_ | exact wZ)
    refine LdN.agg [.int .i64 4, .int .i64 num, .string (bs text), .slice na names.length nc, .slice ia items.length ic] rfl (fun w hw => hw.2.2.1.1.1) rfl (fun k hk => by rw [Int.toNat_natCast]; exact grC_get l u k hk hp) ?_
    (first | refine wXD ?_ | exact wZD)
    refine DrawN.planQ [0, 3] [1, 2, 4, 5, 6, 7] [(8, 0)] (by decide +kernel) ?_
    (first | refine wX ?_ | exact wZ)
    refine callQ (hq4 rfl _) ?_
    (first | refine wX ?_ | exact wZ)
    have hq1 := hql text
    refine Nd.mk (by show 1 + (bs (qt text)).size < _; rw [bs_size]; omega) ?_
    (first | refine wX ?_ | exact wZ)
    rw [show (({ data := #[34] } : ByteArray) ++ bs (qt text)) = bs ([34] ++ qt text) by rw [← bs_app]; rfl]
    refine Nd.mk (by show (bs ([34] ++ qt text)).size + 1 < _; rw [bs_size]; simp; omega) ?_
    rw [show (bs ([34] ++ qt text) ++ ({ data := #[34] } : ByteArray)) = bs ([34] ++ qt text ++ [34]) by rw [← bs_app]; rfl]
    (first | refine wX ?_ | exact wZ)
    -- [34] ++ qt text ++ [34]: the text of the leaf
    refine callG (WriteString_w _ _ way j false out ([34] ++ qt text ++ [34]) i hi (by first | omega | (simp; omega))) [0, 1, 2, 3] rfl ⟨rfl, rfl, rfl, rfl, trivial⟩ rfl fun i2 hi2 => ?_
    (first | refine wX ?_ | exact wZ)
    exact ⟨(i2, j), ⟨hi2, hj⟩, rfl, by (repeat' (first | exact trivial | exact wkE_refl _ | refine And.intro ?_ ?_))⟩
  · -- [58] ++ text: the text of the leaf, 5: the kind
    have hwr : writeS 20000 (leafS qt it) (l.map (·.c)) (m + 1) out way u = out ++ ([58] ++ text) := by
      unfold writeS
      rw [if_neg hM, hat, if_pos (show isLeaf (Cell.mk 5 num text names items) = true from rfl)]
      rfl
    rw [hwr]
    -- 5: the kind
    refine ownC hm Tryz.func51 (by kernel_rfl) rfl rfl (fun _ _ => wH_ok _ _ _ _ _ _ _) (fun _ _ => Nat.le_refl _) ?_
    (first | refine wX ?_ | exact wZ)
    refine callG (Len_w _ _ way j false out i) [0, 1, 2, 3] rfl ⟨rfl, rfl, rfl, rfl, trivial⟩ rfl fun _ _ => ?_
    (first | refine wX ?_ | exact wZ)
    refine brd_dec (fun h => absurd h (by omega)) (fun _ => ?_)
    (first | refine wX ?_ | exact wZ)
    refine Nd.mk ⟨hsa, by omega, by omega⟩ ?_
    (first | refine wX ?_ | exact wZ)
    refine LdN.agg [.int .i64 5, .int .i64 num, .string (bs text), .slice na names.length nc, .slice ia items.length ic] rfl (fun w hw => hw.2.2.1.1.1) rfl (fun k hk => by rw [Int.toNat_natCast]; exact grC_get l u k hk hp) ?_
    (first | refine wXD ?_ | exact wZD)
    refine DrawN.planQ [0, 3] [1, 2, 4, 5] [(6, 0)] (by decide +kernel) ?_
    (first | refine wX ?_ | exact wZ)
    refine Nd.mk (by show 1 + (bs text).size < _; rw [bs_size]; omega) ?_
    rw [show (({ data := #[58] } : ByteArray) ++ bs text) = bs ([58] ++ text) by rw [← bs_app]; rfl]
    (first | refine wX ?_ | exact wZ)
    -- [58] ++ text: the text of the leaf
    refine callG (WriteString_w _ _ way j false out ([58] ++ text) i hi (by first | omega | (simp; omega))) [0, 1, 2, 3] rfl ⟨rfl, rfl, rfl, rfl, trivial⟩ rfl fun i2 hi2 => ?_
    (first | refine wX ?_ | exact wZ)
    exact ⟨(i2, j), ⟨hi2, hj⟩, rfl, by (repeat' (first | exact trivial | exact wkE_refl _ | refine And.intro ?_ ?_))⟩
  · -- 6: the kind
    rw [writeS_in hM hat (fun h => absurd (of_decide_eq_true h) (by show ¬ (6 : Int) ≤ 5; decide))]
    -- 6: the kind
    refine ownC hm Tryz.func51 (by kernel_rfl) rfl rfl (fun _ _ => wH_ok _ _ _ _ _ _ _) (fun _ _ => Nat.le_refl _) ?_
    (first | refine wX ?_ | exact wZ)
    refine callG (Len_w _ _ way j false out i) [0, 1, 2, 3] rfl ⟨rfl, rfl, rfl, rfl, trivial⟩ rfl fun _ _ => ?_
    (first | refine wX ?_ | exact wZ)
    refine brd_dec (fun h => absurd h (by omega)) (fun _ => ?_)
    (first | refine wX ?_ | exact wZ)
    refine Nd.mk ⟨hsa, by omega, by omega⟩ ?_
    (first | refine wX ?_ | exact wZ)
    refine LdN.agg [.int .i64 6, .int .i64 num, .string (bs text), .slice na names.length nc, .slice ia items.length ic] rfl (fun w hw => hw.2.2.1.1.1) rfl (fun k hk => by rw [Int.toNat_natCast]; exact grC_get l u k hk hp) ?_
    (first | refine wXD ?_ | exact wZD)
    refine spec_of_exec hm Tryz.func99 (by kernel_rfl) rfl rfl ?_
    (first | refine wXD ?_ | exact wZD)
    refine SpecH.args (args' := pvs [.slice (at0 j.ob) way.length j.cap, .int .i64 (u : Int)]) (by simp [pvs, opvs, opv, nth]; try rfl) ?_
    refine call1 (contains_c j.ob j.cap way u (fun h => List.eq_nil_of_length_eq_zero (hj.1 h).1) (by omega) _ (fun w hw => hw.2.1)) ?_
    (first | refine wXD ?_ | exact wZD)
    try refine Nd.mk ⟨Nat.le_refl 1, rfl, rfl⟩ ?_
    (conv => whnf)
    refine AppN.grow 2 (iC way) [.int .i64 (u : Int)] rfl rfl ⟨Nat.le_refl 1, ⟨by show (way.length + 1) * 8 ≤ _; omega, by omega⟩, Nat.one_ne_zero⟩ fun wb wc hwc _ => ?_
    obtain ⟨way2, hway2⟩ : ∃ w2, w2 = way ++ [(u : Int)] := ⟨_, rfl⟩
    have hcl : iC way ++ [.int .i64 (u : Int)] = iC way2 := by rw [hway2]; simp [iC]
    have hll : way.length + 1 = way2.length := by rw [hway2]; simp
    rw [hcl, hll]
    (first | refine wXD ?_ | exact wZD)
    -- [91]: what is written, i2: the place behind
    refine callG (WriteString_w _ _ way2 ⟨some wb, wc⟩ false out ([91]) i hi (by first | omega | (simp; omega))) [0, 1, 2, 3] rfl ⟨rfl, rfl, rfl, rfl, trivial⟩ rfl fun i2 hi2 => ?_
    (first | refine wXD ?_ | exact wZD)
    -- [91]: front, [46, 46, 46]: mark, [93]: back
    cases hun : decide ((u : Int) ∈ way) with
    | true =>
      rw [if_pos (of_decide_eq_true hun)]
      (first | refine wXD ?_ | exact wZD)
      -- out ++ ([91]): what is there, [46, 46, 46]: what is written, i2: the Builder's place, hi2: its word, i3: the place behind
      refine callG (WriteString_w _ _ way2 ⟨some wb, wc⟩ true (out ++ ([91])) ([46, 46, 46]) i2 hi2 (by first | omega | (simp; omega))) [0, 1, 2, 3] rfl ⟨rfl, rfl, rfl, rfl, trivial⟩ rfl fun i3 hi3 => ?_
      (first | refine wXD ?_ | exact wZD)
      -- out ++ ([91]) ++ ([46, 46, 46]): what is there, [93]: what is written, i3: the Builder's place, hi3: its word, i4: the place behind
      refine callG (WriteString_w _ _ way2 ⟨some wb, wc⟩ true (out ++ ([91]) ++ ([46, 46, 46])) ([93]) i3 hi3 (by first | omega | (simp; omega))) [0, 1, 2, 3] rfl ⟨rfl, rfl, rfl, rfl, trivial⟩ rfl fun i4 hi4 => ?_
      (first | refine wXD ?_ | exact wZD)
      -- i4: the Builder's place
      refine DrawN.plan [0, 1, 5] [(2, 1), (3, 1), (4, 1), (6, 1), (7, 1), (8, 1), (9, 1), (10, 1), (11, 1), (12, 1), (13, 1)] [(14, 0)] (by decide +kernel) ?_
      (first | refine wXD ?_ | exact wZD)
      rw [show IntKind.i64.wrap ((way2.length : Int) - 1) = (way.length : Int) by rw [wrap_i64 (by omega)]; omega]
      refine ReadW.slc_hi rfl (by kernel_rfl) rfl rfl (by show (0 : Int) ≤ (way.length : Int) ∧ (way.length : Int) ≤ (wc : Int); omega) ?_
      rw [Int.toNat_natCast]
      (first | refine wXD ?_ | exact wZD)
      refine ⟨(i4, ⟨some wb, wc⟩), ⟨hi4, (fun h => by cases h), by show way.length ≤ wc; omega, fun h => by have : wc = 0 := h; omega⟩, rfl, ⟨rfl, rfl, rfl, rfl, rfl, trivial⟩, wkE_refl _, .inr (.inr ⟨rfl, rfl, ?_, rfl, by omega, rfl⟩), wkE_refl _, trivial⟩
      rw [hway2, Nat.mul_one]
      simp [iC]
    | false =>
    rw [if_neg (of_decide_eq_false hun)]
    (first | refine wXD ?_ | exact wZD)
    -- 6: the kind, [91]: the front
    rw [← hway2]
    have hnd2 : way2.Nodup := by
      rw [hway2]
      exact List.nodup_append.2 ⟨hw, by simp, fun x hx y hy => by
        rw [List.mem_singleton.1 hy]
        intro e
        subst e
        exact of_decide_eq_false hun hx⟩
    have hr2 : ∀ x ∈ way2, 0 ≤ x ∧ x < (l.length : Int) := fun x hx => by
      rw [hway2] at hx
      rcases List.mem_append.1 hx with hx | hx
      · exact hr x hx
      · rw [List.mem_singleton.1 hx]; omega
    obtain ⟨ff, hff⟩ : ∃ ff, ff = fun o k => writeS 20000 (leafS qt it) (l.map (·.c)) m o way2 k := ⟨_, rfl⟩
    rw [← hff]
    have hfx : ∀ o x, ff o x = writeS 20000 (leafS qt it) (l.map (·.c)) m o way2 x := fun o x => by rw [hff]
    have hpre : ∀ i, (preT (Cell.mk 6 num text names items) i).length ≤ 50 := fun i => by
      have := pre_le hsh (u : Int) i
      rw [hat] at this
      exact this
    have hfold : ∀ k, (foldT ff (preT (Cell.mk 6 num text names items)) 0 (items.take k) (out ++ ([91]))).length ≤ 130000000 := fun k => by
      have hfl : (out ++ ([91])).length ≤ out.length + 2002 := by simp; try omega
      have := foldT_len (M := 20000) (f := ff) (pre := preT (Cell.mk 6 num text names items)) (p := 50) (X := 20000 + m * 200000) hpre (by omega) (fun o k ho => by rw [hff]; exact write_same m o _ k ho) (fun o k ho => by rw [hff]; have := write_len (M := 20000) hsh m o way2 k; show (writeS _ _ _ _ _ _ _).length ≤ _; omega) (items.take k) 0 (out ++ ([91])) (22002 + m * 200000) (by omega) (by omega)
      rw [List.length_take] at this
      omega
    refine spec_of_exec hm Tryz.func122 (by kernel_rfl) rfl rfl ?_
    (first | refine wXD ?_ | exact wZD)
    -- 6: the kind, [91]: the front
    refine LoopN.intro (Nat × BSt × BSt) (fun ⟨k, i, j⟩ => k ≤ items.length ∧ i.ok (foldT ff (preT (Cell.mk 6 num text names items)) 0 (items.take k) (out ++ ([91]))).length ∧ j.ok way2.length) (fun ⟨k, _, _⟩ => mkS Tryz.f122.ntmps 0 [(0, .c (.lp 0 0)), (3, .c (.lp 7 0)), (7, .c (.v (.slice ia items.length ic))), (8, .c (.v (.int .i64 (items.length : Int)))), (9, .c (.v (.int .i64 (k : Int))))])
      (fun ⟨k, i, j⟩ => wH (.slice a l.length ca) (gF a l E) true (foldT ff (preT (Cell.mk 6 num text names items)) 0 (items.take k) (out ++ ([91]))) i way2 j ++ [.dead, .dead, .dead, .blk 42 [.v (.int .i64 6), .v (.int .i64 num), .v (.string (bs text)), .v (.slice na names.length nc), .v (.slice ia items.length ic)]]) (fun ⟨k, _, _⟩ => items.length - k) [] rfl (fun ⟨_, _, _⟩ => rfl) (fun ⟨_, _, _⟩ => rfl) (fun ⟨_, _, _⟩ _ => okHB_eq rfl) ?_ ?_
    · refine ⟨(0, i2, ⟨some wb, wc⟩), ⟨Nat.zero_le _, hi2, (fun h => by cases h), by show way2.length ≤ wc; omega, fun h => by have : wc = 0 := h; omega⟩, ?_, wkE_refl _, wkE_refl _, wkE_refl _, wkE_refl _, trivial, trivial, trivial, wkE_refl _, trivial⟩
      (repeat' (first | exact trivial | refine And.intro (by with_reducible rfl) ?_ | (with_reducible exact wkC_refl _) | (with_reducible exact wkCs_refl _) | refine And.intro ?_ ?_))
      all_goals rfl
    rintro ⟨k, i3, j3⟩ ⟨hk3, hi3, hj3⟩
    (first | refine wXD ?_ | exact wZD)
    refine brd_dec (fun h1 => ?_) (fun h1 => ?_)
    · obtain ⟨x, hx⟩ : ∃ x, items[k]? = some x := ⟨_, List.getElem?_eq_getElem (by omega)⟩
      have hxin := cellD_in hcd x (List.mem_of_getElem? hx)
      obtain ⟨xn, rfl⟩ : ∃ xn : Nat, x = (xn : Int) := ⟨x.toNat, by omega⟩
      have hx1 : xn < l.length := by omega
      have hsi : ia.isSome = true := by
        have := hpo.ia
        cases ia with
        | none =>
          have h0 : items = [] := this rfl
          rw [h0] at hx
          cases hx
        | some b => rfl
      (first | refine wXD ?_ | exact wZD)
      refine Nd.mk ⟨hsi, by omega, by omega⟩ ?_
      (first | refine wXD ?_ | exact wZD)
      refine LdN.one (.int .i64 (xn : Int)) rfl (fun w hw => (hw.2.2.1.1.2 _ hpm).2) (by rw [Int.toNat_natCast]; show (iC items)[k * 1]? = _; rw [Nat.mul_one]; exact iC_get hx) ?_
      (first | refine wXD ?_ | exact wZD)
      refine brd_dec (fun hk0 => ?_) (fun hk0 => ?_)
      · (first | refine wXD ?_ | exact wZD)
        -- 6: the kind, [91]: the front, [44, 32]: what stands ahead, by rw [preT_6 rfl, if_pos (by omega)]: why
        refine callG (WriteString_w _ _ way2 j3 true (foldT ff (preT (Cell.mk 6 num text names items)) 0 (items.take k) (out ++ ([91]))) ([44, 32]) i3 hi3 (by have := hfold k; simp only [List.length_cons, List.length_nil]; omega)) [0, 1, 2, 3] rfl ⟨rfl, rfl, rfl, rfl, trivial⟩ rfl fun i6 hi6 => ?_
        (first | refine wXD ?_ | exact wZD)
        -- an item is written, and the round is over; [44, 32]: what stands ahead of it, i6: the Builder's place, by rw [preT_6 rfl, if_pos (by omega)]: the proof that it stands ahead
        refine callG (ih (by omega) (foldT ff (preT (Cell.mk 6 num text names items)) 0 (items.take k) (out ++ ([91])) ++ ([44, 32])) way2 i6 j3 xn (hi6) hj3 hx1 hnd2 hr2 (by omega) (by have := hfold k; simp only [List.length_append, List.length_cons, List.length_nil]; omega)) [0, 1, 2, 3] rfl ⟨rfl, rfl, rfl, rfl, trivial⟩ rfl fun st hst => ?_
        obtain ⟨i5, j5⟩ := st
        obtain ⟨hi5, hj5⟩ := hst
        simp only at hi5 hj5
        (first | refine wXD ?_ | exact wZD)
        have hfs := foldT_take (f := ff) (pre := preT (Cell.mk 6 num text names items)) hx (out ++ ([91]))
        rw [show preT (Cell.mk 6 num text names items) k = [44, 32] from by rw [preT_6 rfl, if_pos (by omega)], hfx] at hfs
        refine ⟨(k + 1, i5, j5), ⟨by omega, by rw [hfs]; exact hi5, hj5⟩, by show items.length - (k + 1) < items.length - k; omega, ?_, ?_⟩
        · (repeat' (first | exact trivial | refine And.intro (by with_reducible rfl) ?_ | (with_reducible exact wkC_refl _) | (with_reducible exact wkCs_refl _) | refine And.intro ?_ ?_))
          all_goals first | rfl | exact av_int (by rw [wrap_i64 (by omega)]; omega) | exact av_int (by omega)
        · show wkH _ (wH _ _ true (foldT ff _ 0 (items.take (k + 1)) _) _ _ _ ++ _)
          rw [hfs]
          exact ⟨wkE_refl _, wkE_refl _, wkE_refl _, wkE_refl _, trivial, trivial, trivial, wkE_refl _, trivial⟩
      · (first | refine wXD ?_ | exact wZD)
        -- 6: the kind, [91]: the front, by rw [preT_6 rfl, if_neg (by omega)]: why
        rw [show foldT ff (preT (Cell.mk 6 num text names items)) 0 (items.take k) (out ++ ([91])) = foldT ff (preT (Cell.mk 6 num text names items)) 0 (items.take k) (out ++ ([91])) ++ [] from (List.append_nil _).symm]
        -- an item is written, and the round is over; []: what stands ahead of it, i3: the Builder's place, by rw [preT_6 rfl, if_neg (by omega)]: the proof that it stands ahead
        refine callG (ih (by omega) (foldT ff (preT (Cell.mk 6 num text names items)) 0 (items.take k) (out ++ ([91])) ++ ([])) way2 i3 j3 xn (by rw [List.append_nil]; exact hi3) hj3 hx1 hnd2 hr2 (by omega) (by have := hfold k; simp only [List.length_append, List.length_cons, List.length_nil]; omega)) [0, 1, 2, 3] rfl ⟨rfl, rfl, rfl, rfl, trivial⟩ rfl fun st hst => ?_
        obtain ⟨i5, j5⟩ := st
        obtain ⟨hi5, hj5⟩ := hst
        simp only at hi5 hj5
        (first | refine wXD ?_ | exact wZD)
        have hfs := foldT_take (f := ff) (pre := preT (Cell.mk 6 num text names items)) hx (out ++ ([91]))
        rw [show preT (Cell.mk 6 num text names items) k = [] from by rw [preT_6 rfl, if_neg (by omega)], hfx] at hfs
        refine ⟨(k + 1, i5, j5), ⟨by omega, by rw [hfs]; exact hi5, hj5⟩, by show items.length - (k + 1) < items.length - k; omega, ?_, ?_⟩
        · (repeat' (first | exact trivial | refine And.intro (by with_reducible rfl) ?_ | (with_reducible exact wkC_refl _) | (with_reducible exact wkCs_refl _) | refine And.intro ?_ ?_))
          all_goals first | rfl | exact av_int (by rw [wrap_i64 (by omega)]; omega) | exact av_int (by omega)
        · show wkH _ (wH _ _ true (foldT ff _ 0 (items.take (k + 1)) _) _ _ _ ++ _)
          rw [hfs]
          exact ⟨wkE_refl _, wkE_refl _, wkE_refl _, wkE_refl _, trivial, trivial, trivial, wkE_refl _, trivial⟩
    · have hin : k = items.length := by omega
      subst hin
      rw [List.take_length] at hi3 ⊢
      have hfe := hfold items.length
      rw [List.take_length] at hfe
      obtain ⟨wb, wc⟩ := j3
      cases wb with
      | none =>
        have := (hj3.1 rfl).1
        omega
      | some wb =>
      have hwc3 : way2.length ≤ wc := hj3.2.1
      (first | refine wXD ?_ | exact wZD)
      refine callG (WriteString_w _ _ way2 ⟨some wb, wc⟩ true (foldT ff (preT (Cell.mk 6 num text names items)) 0 items (out ++ ([91]))) ([93]) i3 hi3 (by simp only [List.length_cons, List.length_nil]; omega)) [0, 1, 2, 3] rfl ⟨rfl, rfl, rfl, rfl, trivial⟩ rfl fun i7 hi7 => ?_
      (first | refine wXD ?_ | exact wZD)
      -- i7: the Builder's place
      refine DrawN.plan [0, 1, 5] [(2, 1), (3, 1), (4, 1), (6, 1), (7, 1), (8, 1), (9, 1), (10, 1), (11, 1), (12, 1), (13, 1)] [(14, 0)] (by decide +kernel) ?_
      (first | refine wXD ?_ | exact wZD)
      rw [show IntKind.i64.wrap ((way2.length : Int) - 1) = (way.length : Int) by rw [wrap_i64 (by omega)]; omega]
      refine ReadW.slc_hi rfl (by kernel_rfl) rfl rfl (by show (0 : Int) ≤ (way.length : Int) ∧ (way.length : Int) ≤ (wc : Int); omega) ?_
      rw [Int.toNat_natCast]
      (first | refine wXD ?_ | exact wZD)
      refine ⟨(i7, ⟨some wb, wc⟩), ⟨hi7, (fun h => by cases h), by show way.length ≤ wc; omega, fun h => by have : wc = 0 := h; omega⟩, rfl, ⟨rfl, rfl, rfl, rfl, rfl, trivial⟩, wkE_refl _, .inr (.inr ⟨rfl, rfl, ?_, rfl, by omega, rfl⟩), wkE_refl _, trivial⟩
      rw [hway2, Nat.mul_one]
      simp [iC]
  · -- 7: the kind
    rw [writeS_in hM hat (fun h => absurd (of_decide_eq_true h) (by show ¬ (7 : Int) ≤ 5; decide))]
    -- 7: the kind
    refine ownC hm Tryz.func51 (by kernel_rfl) rfl rfl (fun _ _ => wH_ok _ _ _ _ _ _ _) (fun _ _ => Nat.le_refl _) ?_
    (first | refine wX ?_ | exact wZ)
    refine callG (Len_w _ _ way j false out i) [0, 1, 2, 3] rfl ⟨rfl, rfl, rfl, rfl, trivial⟩ rfl fun _ _ => ?_
    (first | refine wX ?_ | exact wZ)
    refine brd_dec (fun h => absurd h (by omega)) (fun _ => ?_)
    (first | refine wX ?_ | exact wZ)
    refine Nd.mk ⟨hsa, by omega, by omega⟩ ?_
    (first | refine wX ?_ | exact wZ)
    refine LdN.agg [.int .i64 7, .int .i64 num, .string (bs text), .slice na names.length nc, .slice ia items.length ic] rfl (fun w hw => hw.2.2.1.1.1) rfl (fun k hk => by rw [Int.toNat_natCast]; exact grC_get l u k hk hp) ?_
    (first | refine wXD ?_ | exact wZD)
    refine spec_of_exec hm Tryz.func99 (by kernel_rfl) rfl rfl ?_
    (first | refine wXD ?_ | exact wZD)
    refine SpecH.args (args' := pvs [.slice (at0 j.ob) way.length j.cap, .int .i64 (u : Int)]) (by simp [pvs, opvs, opv, nth]; try rfl) ?_
    refine call1 (contains_c j.ob j.cap way u (fun h => List.eq_nil_of_length_eq_zero (hj.1 h).1) (by omega) _ (fun w hw => hw.2.1)) ?_
    (first | refine wXD ?_ | exact wZD)
    try refine Nd.mk ⟨Nat.le_refl 1, rfl, rfl⟩ ?_
    (conv => whnf)
    refine AppN.grow 2 (iC way) [.int .i64 (u : Int)] rfl rfl ⟨Nat.le_refl 1, ⟨by show (way.length + 1) * 8 ≤ _; omega, by omega⟩, Nat.one_ne_zero⟩ fun wb wc hwc _ => ?_
    obtain ⟨way2, hway2⟩ : ∃ w2, w2 = way ++ [(u : Int)] := ⟨_, rfl⟩
    have hcl : iC way ++ [.int .i64 (u : Int)] = iC way2 := by rw [hway2]; simp [iC]
    have hll : way.length + 1 = way2.length := by rw [hway2]; simp
    rw [hcl, hll]
    (first | refine wXD ?_ | exact wZD)
    -- [123]: what is written, i2: the place behind
    refine callG (WriteString_w _ _ way2 ⟨some wb, wc⟩ false out ([123]) i hi (by first | omega | (simp; omega))) [0, 1, 2, 3] rfl ⟨rfl, rfl, rfl, rfl, trivial⟩ rfl fun i2 hi2 => ?_
    (first | refine wXD ?_ | exact wZD)
    -- [123]: front, [46, 46, 46]: mark, [125]: back
    cases hun : decide ((u : Int) ∈ way) with
    | true =>
      rw [if_pos (of_decide_eq_true hun)]
      (first | refine wXD ?_ | exact wZD)
      -- out ++ ([123]): what is there, [46, 46, 46]: what is written, i2: the Builder's place, hi2: its word, i3: the place behind
      refine callG (WriteString_w _ _ way2 ⟨some wb, wc⟩ true (out ++ ([123])) ([46, 46, 46]) i2 hi2 (by first | omega | (simp; omega))) [0, 1, 2, 3] rfl ⟨rfl, rfl, rfl, rfl, trivial⟩ rfl fun i3 hi3 => ?_
      (first | refine wXD ?_ | exact wZD)
      -- out ++ ([123]) ++ ([46, 46, 46]): what is there, [125]: what is written, i3: the Builder's place, hi3: its word, i4: the place behind
      refine callG (WriteString_w _ _ way2 ⟨some wb, wc⟩ true (out ++ ([123]) ++ ([46, 46, 46])) ([125]) i3 hi3 (by first | omega | (simp; omega))) [0, 1, 2, 3] rfl ⟨rfl, rfl, rfl, rfl, trivial⟩ rfl fun i4 hi4 => ?_
      (first | refine wXD ?_ | exact wZD)
      -- i4: the Builder's place
      refine DrawN.plan [0, 1, 5] [(2, 1), (3, 1), (4, 1), (6, 1), (7, 1), (8, 1), (9, 1), (10, 1), (11, 1), (12, 1), (13, 1)] [(14, 0)] (by decide +kernel) ?_
      (first | refine wXD ?_ | exact wZD)
      rw [show IntKind.i64.wrap ((way2.length : Int) - 1) = (way.length : Int) by rw [wrap_i64 (by omega)]; omega]
      refine ReadW.slc_hi rfl (by kernel_rfl) rfl rfl (by show (0 : Int) ≤ (way.length : Int) ∧ (way.length : Int) ≤ (wc : Int); omega) ?_
      rw [Int.toNat_natCast]
      (first | refine wXD ?_ | exact wZD)
      refine ⟨(i4, ⟨some wb, wc⟩), ⟨hi4, (fun h => by cases h), by show way.length ≤ wc; omega, fun h => by have : wc = 0 := h; omega⟩, rfl, ⟨rfl, rfl, rfl, rfl, rfl, trivial⟩, wkE_refl _, .inr (.inr ⟨rfl, rfl, ?_, rfl, by omega, rfl⟩), wkE_refl _, trivial⟩
      rw [hway2, Nat.mul_one]
      simp [iC]
    | false =>
    rw [if_neg (of_decide_eq_false hun)]
    (first | refine wXD ?_ | exact wZD)
    -- 7: the kind, [123]: the front
    rw [← hway2]
    have hnd2 : way2.Nodup := by
      rw [hway2]
      exact List.nodup_append.2 ⟨hw, by simp, fun x hx y hy => by
        rw [List.mem_singleton.1 hy]
        intro e
        subst e
        exact of_decide_eq_false hun hx⟩
    have hr2 : ∀ x ∈ way2, 0 ≤ x ∧ x < (l.length : Int) := fun x hx => by
      rw [hway2] at hx
      rcases List.mem_append.1 hx with hx | hx
      · exact hr x hx
      · rw [List.mem_singleton.1 hx]; omega
    obtain ⟨ff, hff⟩ : ∃ ff, ff = fun o k => writeS 20000 (leafS qt it) (l.map (·.c)) m o way2 k := ⟨_, rfl⟩
    rw [← hff]
    have hfx : ∀ o x, ff o x = writeS 20000 (leafS qt it) (l.map (·.c)) m o way2 x := fun o x => by rw [hff]
    have hpre : ∀ i, (preT (Cell.mk 7 num text names items) i).length ≤ 50 := fun i => by
      have := pre_le hsh (u : Int) i
      rw [hat] at this
      exact this
    have hfold : ∀ k, (foldT ff (preT (Cell.mk 7 num text names items)) 0 (items.take k) (out ++ ([123]))).length ≤ 130000000 := fun k => by
      have hfl : (out ++ ([123])).length ≤ out.length + 2002 := by simp; try omega
      have := foldT_len (M := 20000) (f := ff) (pre := preT (Cell.mk 7 num text names items)) (p := 50) (X := 20000 + m * 200000) hpre (by omega) (fun o k ho => by rw [hff]; exact write_same m o _ k ho) (fun o k ho => by rw [hff]; have := write_len (M := 20000) hsh m o way2 k; show (writeS _ _ _ _ _ _ _).length ≤ _; omega) (items.take k) 0 (out ++ ([123])) (22002 + m * 200000) (by omega) (by omega)
      rw [List.length_take] at this
      omega
    refine spec_of_exec hm Tryz.func122 (by kernel_rfl) rfl rfl ?_
    (first | refine wXD ?_ | exact wZD)
    -- 7: the kind, [123]: the front
    refine LoopN.intro (Nat × BSt × BSt) (fun ⟨k, i, j⟩ => k ≤ items.length ∧ i.ok (foldT ff (preT (Cell.mk 7 num text names items)) 0 (items.take k) (out ++ ([123]))).length ∧ j.ok way2.length) (fun ⟨k, _, _⟩ => mkS Tryz.f122.ntmps 0 [(0, .c (.lp 0 0)), (3, .c (.lp 7 0)), (7, .c (.v (.slice ia items.length ic))), (8, .c (.v (.int .i64 (items.length : Int)))), (9, .c (.v (.int .i64 (k : Int))))])
      (fun ⟨k, i, j⟩ => wH (.slice a l.length ca) (gF a l E) true (foldT ff (preT (Cell.mk 7 num text names items)) 0 (items.take k) (out ++ ([123]))) i way2 j ++ [.dead, .dead, .dead, .blk 42 [.v (.int .i64 7), .v (.int .i64 num), .v (.string (bs text)), .v (.slice na names.length nc), .v (.slice ia items.length ic)]]) (fun ⟨k, _, _⟩ => items.length - k) [] rfl (fun ⟨_, _, _⟩ => rfl) (fun ⟨_, _, _⟩ => rfl) (fun ⟨_, _, _⟩ _ => okHB_eq rfl) ?_ ?_
    · refine ⟨(0, i2, ⟨some wb, wc⟩), ⟨Nat.zero_le _, hi2, (fun h => by cases h), by show way2.length ≤ wc; omega, fun h => by have : wc = 0 := h; omega⟩, ?_, wkE_refl _, wkE_refl _, wkE_refl _, wkE_refl _, trivial, trivial, trivial, wkE_refl _, trivial⟩
      (repeat' (first | exact trivial | refine And.intro (by with_reducible rfl) ?_ | (with_reducible exact wkC_refl _) | (with_reducible exact wkCs_refl _) | refine And.intro ?_ ?_))
      all_goals rfl
    rintro ⟨k, i3, j3⟩ ⟨hk3, hi3, hj3⟩
    (first | refine wXD ?_ | exact wZD)
    refine brd_dec (fun h1 => ?_) (fun h1 => ?_)
    · obtain ⟨x, hx⟩ : ∃ x, items[k]? = some x := ⟨_, List.getElem?_eq_getElem (by omega)⟩
      have hxin := cellD_in hcd x (List.mem_of_getElem? hx)
      obtain ⟨xn, rfl⟩ : ∃ xn : Nat, x = (xn : Int) := ⟨x.toNat, by omega⟩
      have hx1 : xn < l.length := by omega
      have hsi : ia.isSome = true := by
        have := hpo.ia
        cases ia with
        | none =>
          have h0 : items = [] := this rfl
          rw [h0] at hx
          cases hx
        | some b => rfl
      (first | refine wXD ?_ | exact wZD)
      refine Nd.mk ⟨hsi, by omega, by omega⟩ ?_
      (first | refine wXD ?_ | exact wZD)
      refine LdN.one (.int .i64 (xn : Int)) rfl (fun w hw => (hw.2.2.1.1.2 _ hpm).2) (by rw [Int.toNat_natCast]; show (iC items)[k * 1]? = _; rw [Nat.mul_one]; exact iC_get hx) ?_
      (first | refine wXD ?_ | exact wZD)
      refine brd_eq (fun hk1 => ?_) (fun hk1 => ?_)
      · rw [Int.tmod_eq_emod_of_nonneg (by omega)] at hk1
        (first | refine wXD ?_ | exact wZD)
        -- 7: the kind, [123]: the front, [32, 61, 62, 32]: what stands ahead, by rw [preT_7 rfl, if_pos (by omega)]: why
        refine callG (WriteString_w _ _ way2 j3 true (foldT ff (preT (Cell.mk 7 num text names items)) 0 (items.take k) (out ++ ([123]))) ([32, 61, 62, 32]) i3 hi3 (by have := hfold k; simp only [List.length_cons, List.length_nil]; omega)) [0, 1, 2, 3] rfl ⟨rfl, rfl, rfl, rfl, trivial⟩ rfl fun i6 hi6 => ?_
        (first | refine wXD ?_ | exact wZD)
        -- an item is written, and the round is over; [32, 61, 62, 32]: what stands ahead of it, i6: the Builder's place, by rw [preT_7 rfl, if_pos (by omega)]: the proof that it stands ahead
        refine callG (ih (by omega) (foldT ff (preT (Cell.mk 7 num text names items)) 0 (items.take k) (out ++ ([123])) ++ ([32, 61, 62, 32])) way2 i6 j3 xn (hi6) hj3 hx1 hnd2 hr2 (by omega) (by have := hfold k; simp only [List.length_append, List.length_cons, List.length_nil]; omega)) [0, 1, 2, 3] rfl ⟨rfl, rfl, rfl, rfl, trivial⟩ rfl fun st hst => ?_
        obtain ⟨i5, j5⟩ := st
        obtain ⟨hi5, hj5⟩ := hst
        simp only at hi5 hj5
        (first | refine wXD ?_ | exact wZD)
        have hfs := foldT_take (f := ff) (pre := preT (Cell.mk 7 num text names items)) hx (out ++ ([123]))
        rw [show preT (Cell.mk 7 num text names items) k = [32, 61, 62, 32] from by rw [preT_7 rfl, if_pos (by omega)], hfx] at hfs
        refine ⟨(k + 1, i5, j5), ⟨by omega, by rw [hfs]; exact hi5, hj5⟩, by show items.length - (k + 1) < items.length - k; omega, ?_, ?_⟩
        · (repeat' (first | exact trivial | refine And.intro (by with_reducible rfl) ?_ | (with_reducible exact wkC_refl _) | (with_reducible exact wkCs_refl _) | refine And.intro ?_ ?_))
          all_goals first | rfl | exact av_int (by rw [wrap_i64 (by omega)]; omega) | exact av_int (by omega)
        · show wkH _ (wH _ _ true (foldT ff _ 0 (items.take (k + 1)) _) _ _ _ ++ _)
          rw [hfs]
          exact ⟨wkE_refl _, wkE_refl _, wkE_refl _, wkE_refl _, trivial, trivial, trivial, wkE_refl _, trivial⟩
      rw [Int.tmod_eq_emod_of_nonneg (by omega)] at hk1
      (first | refine wXD ?_ | exact wZD)
      refine brd_dec (fun hk0 => ?_) (fun hk0 => ?_)
      · (first | refine wXD ?_ | exact wZD)
        -- 7: the kind, [123]: the front, [44, 32]: what stands ahead, by rw [preT_7 rfl, if_neg (by omega), if_pos (by omega)]: why
        refine callG (WriteString_w _ _ way2 j3 true (foldT ff (preT (Cell.mk 7 num text names items)) 0 (items.take k) (out ++ ([123]))) ([44, 32]) i3 hi3 (by have := hfold k; simp only [List.length_cons, List.length_nil]; omega)) [0, 1, 2, 3] rfl ⟨rfl, rfl, rfl, rfl, trivial⟩ rfl fun i6 hi6 => ?_
        (first | refine wXD ?_ | exact wZD)
        -- an item is written, and the round is over; [44, 32]: what stands ahead of it, i6: the Builder's place, by rw [preT_7 rfl, if_neg (by omega), if_pos (by omega)]: the proof that it stands ahead
        refine callG (ih (by omega) (foldT ff (preT (Cell.mk 7 num text names items)) 0 (items.take k) (out ++ ([123])) ++ ([44, 32])) way2 i6 j3 xn (hi6) hj3 hx1 hnd2 hr2 (by omega) (by have := hfold k; simp only [List.length_append, List.length_cons, List.length_nil]; omega)) [0, 1, 2, 3] rfl ⟨rfl, rfl, rfl, rfl, trivial⟩ rfl fun st hst => ?_
        obtain ⟨i5, j5⟩ := st
        obtain ⟨hi5, hj5⟩ := hst
        simp only at hi5 hj5
        (first | refine wXD ?_ | exact wZD)
        have hfs := foldT_take (f := ff) (pre := preT (Cell.mk 7 num text names items)) hx (out ++ ([123]))
        rw [show preT (Cell.mk 7 num text names items) k = [44, 32] from by rw [preT_7 rfl, if_neg (by omega), if_pos (by omega)], hfx] at hfs
        refine ⟨(k + 1, i5, j5), ⟨by omega, by rw [hfs]; exact hi5, hj5⟩, by show items.length - (k + 1) < items.length - k; omega, ?_, ?_⟩
        · (repeat' (first | exact trivial | refine And.intro (by with_reducible rfl) ?_ | (with_reducible exact wkC_refl _) | (with_reducible exact wkCs_refl _) | refine And.intro ?_ ?_))
          all_goals first | rfl | exact av_int (by rw [wrap_i64 (by omega)]; omega) | exact av_int (by omega)
        · show wkH _ (wH _ _ true (foldT ff _ 0 (items.take (k + 1)) _) _ _ _ ++ _)
          rw [hfs]
          exact ⟨wkE_refl _, wkE_refl _, wkE_refl _, wkE_refl _, trivial, trivial, trivial, wkE_refl _, trivial⟩
      · (first | refine wXD ?_ | exact wZD)
        -- 7: the kind, [123]: the front, by rw [preT_7 rfl, if_neg (by omega), if_neg (by omega)]: why
        rw [show foldT ff (preT (Cell.mk 7 num text names items)) 0 (items.take k) (out ++ ([123])) = foldT ff (preT (Cell.mk 7 num text names items)) 0 (items.take k) (out ++ ([123])) ++ [] from (List.append_nil _).symm]
        -- an item is written, and the round is over; []: what stands ahead of it, i3: the Builder's place, by rw [preT_7 rfl, if_neg (by omega), if_neg (by omega)]: the proof that it stands ahead
        refine callG (ih (by omega) (foldT ff (preT (Cell.mk 7 num text names items)) 0 (items.take k) (out ++ ([123])) ++ ([])) way2 i3 j3 xn (by rw [List.append_nil]; exact hi3) hj3 hx1 hnd2 hr2 (by omega) (by have := hfold k; simp only [List.length_append, List.length_cons, List.length_nil]; omega)) [0, 1, 2, 3] rfl ⟨rfl, rfl, rfl, rfl, trivial⟩ rfl fun st hst => ?_
        obtain ⟨i5, j5⟩ := st
        obtain ⟨hi5, hj5⟩ := hst
        simp only at hi5 hj5
        (first | refine wXD ?_ | exact wZD)
        have hfs := foldT_take (f := ff) (pre := preT (Cell.mk 7 num text names items)) hx (out ++ ([123]))
        rw [show preT (Cell.mk 7 num text names items) k = [] from by rw [preT_7 rfl, if_neg (by omega), if_neg (by omega)], hfx] at hfs
        refine ⟨(k + 1, i5, j5), ⟨by omega, by rw [hfs]; exact hi5, hj5⟩, by show items.length - (k + 1) < items.length - k; omega, ?_, ?_⟩
        · (repeat' (first | exact trivial | refine And.intro (by with_reducible rfl) ?_ | (with_reducible exact wkC_refl _) | (with_reducible exact wkCs_refl _) | refine And.intro ?_ ?_))
          all_goals first | rfl | exact av_int (by rw [wrap_i64 (by omega)]; omega) | exact av_int (by omega)
        · show wkH _ (wH _ _ true (foldT ff _ 0 (items.take (k + 1)) _) _ _ _ ++ _)
          rw [hfs]
          exact ⟨wkE_refl _, wkE_refl _, wkE_refl _, wkE_refl _, trivial, trivial, trivial, wkE_refl _, trivial⟩
    · have hin : k = items.length := by omega
      subst hin
      rw [List.take_length] at hi3 ⊢
      have hfe := hfold items.length
      rw [List.take_length] at hfe
      obtain ⟨wb, wc⟩ := j3
      cases wb with
      | none =>
        have := (hj3.1 rfl).1
        omega
      | some wb =>
      have hwc3 : way2.length ≤ wc := hj3.2.1
      (first | refine wXD ?_ | exact wZD)
      refine callG (WriteString_w _ _ way2 ⟨some wb, wc⟩ true (foldT ff (preT (Cell.mk 7 num text names items)) 0 items (out ++ ([123]))) ([125]) i3 hi3 (by simp only [List.length_cons, List.length_nil]; omega)) [0, 1, 2, 3] rfl ⟨rfl, rfl, rfl, rfl, trivial⟩ rfl fun i7 hi7 => ?_
      (first | refine wXD ?_ | exact wZD)
      -- i7: the Builder's place
      refine DrawN.plan [0, 1, 5] [(2, 1), (3, 1), (4, 1), (6, 1), (7, 1), (8, 1), (9, 1), (10, 1), (11, 1), (12, 1), (13, 1)] [(14, 0)] (by decide +kernel) ?_
      (first | refine wXD ?_ | exact wZD)
      rw [show IntKind.i64.wrap ((way2.length : Int) - 1) = (way.length : Int) by rw [wrap_i64 (by omega)]; omega]
      refine ReadW.slc_hi rfl (by kernel_rfl) rfl rfl (by show (0 : Int) ≤ (way.length : Int) ∧ (way.length : Int) ≤ (wc : Int); omega) ?_
      rw [Int.toNat_natCast]
      (first | refine wXD ?_ | exact wZD)
      refine ⟨(i7, ⟨some wb, wc⟩), ⟨hi7, (fun h => by cases h), by show way.length ≤ wc; omega, fun h => by have : wc = 0 := h; omega⟩, rfl, ⟨rfl, rfl, rfl, rfl, rfl, trivial⟩, wkE_refl _, .inr (.inr ⟨rfl, rfl, ?_, rfl, by omega, rfl⟩), wkE_refl _, trivial⟩
      rw [hway2, Nat.mul_one]
      simp [iC]
  · rw [writeS_in hM hat (fun h => absurd (of_decide_eq_true h) (by show ¬ (8 : Int) ≤ 5; decide))]
    -- 8: the kind
    refine ownC hm Tryz.func51 (by kernel_rfl) rfl rfl (fun _ _ => wH_ok _ _ _ _ _ _ _) (fun _ _ => Nat.le_refl _) ?_
    (first | refine wX ?_ | exact wZ)
    refine callG (Len_w _ _ way j false out i) [0, 1, 2, 3] rfl ⟨rfl, rfl, rfl, rfl, trivial⟩ rfl fun _ _ => ?_
    (first | refine wX ?_ | exact wZ)
    refine brd_dec (fun h => absurd h (by omega)) (fun _ => ?_)
    (first | refine wX ?_ | exact wZ)
    refine Nd.mk ⟨hsa, by omega, by omega⟩ ?_
    (first | refine wX ?_ | exact wZ)
    refine LdN.agg [.int .i64 8, .int .i64 num, .string (bs text), .slice na names.length nc, .slice ia items.length ic] rfl (fun w hw => hw.2.2.1.1.1) rfl (fun k hk => by rw [Int.toNat_natCast]; exact grC_get l u k hk hp) ?_
    (first | refine wXD ?_ | exact wZD)
    refine spec_of_exec hm Tryz.func99 (by kernel_rfl) rfl rfl ?_
    (first | refine wXF ?_ | exact wZF)
    refine BoxN.known [.int .i64 8, .int .i64 num, .string (bs text), .slice na names.length nc, .slice ia items.length ic] rfl fun cb => ?_
    (first | refine wXF ?_ | exact wZF)
    refine SpecH.args (args' := pvs [.slice (at0 j.ob) way.length j.cap, .int .i64 (u : Int)]) (by simp [pvs, opvs, opv, nth]; try rfl) ?_
    refine call1 (contains_c j.ob j.cap way u (fun h => List.eq_nil_of_length_eq_zero (hj.1 h).1) (by omega) _ (fun w hw => hw.2.1)) ?_
    (first | refine wXF ?_ | exact wZF)
    try refine Nd.mk ⟨Nat.le_refl 1, rfl, rfl⟩ ?_
    (conv => whnf)
    refine AppN.grow 2 (iC way) [.int .i64 (u : Int)] rfl rfl ⟨Nat.le_refl 1, ⟨by show (way.length + 1) * 8 ≤ _; omega, by omega⟩, Nat.one_ne_zero⟩ fun wb wc hwc _ => ?_
    obtain ⟨way2, hway2⟩ : ∃ w2, w2 = way ++ [(u : Int)] := ⟨_, rfl⟩
    have hcl : iC way ++ [.int .i64 (u : Int)] = iC way2 := by rw [hway2]; simp [iC]
    have hll : way.length + 1 = way2.length := by rw [hway2]; simp
    rw [hcl, hll]
    (first | refine wXF ?_ | exact wZF)
    refine Nd.mk (by show 2 + (bs text).size < _; rw [bs_size]; omega) ?_
    rw [show (({ data := #[35, 60] } : ByteArray) ++ bs text) = bs ([35, 60] ++ text) by rw [← bs_app]; rfl]
    (first | refine wXF ?_ | exact wZF)
    -- [35, 60] ++ text: what is written, i2: the place behind
    refine callG (WriteString_w _ _ way2 ⟨some wb, wc⟩ false out ([35, 60] ++ text) i hi (by first | omega | (simp; omega))) [0, 1, 2, 3] rfl ⟨rfl, rfl, rfl, rfl, trivial⟩ rfl fun i2 hi2 => ?_
    (first | refine wXF ?_ | exact wZF)
    cases hun : decide ((u : Int) ∈ way) with
    | true =>
      rw [if_pos (of_decide_eq_true hun)]
      (first | refine wXF ?_ | exact wZF)
      -- out ++ ([35, 60] ++ text): what is there, [32, 46, 46, 46]: what is written, i2: the Builder's place, hi2: its word, i3: the place behind
      refine callG (WriteString_w _ _ way2 ⟨some wb, wc⟩ true (out ++ ([35, 60] ++ text)) ([32, 46, 46, 46]) i2 hi2 (by first | omega | (simp; omega))) [0, 1, 2, 3] rfl ⟨rfl, rfl, rfl, rfl, trivial⟩ rfl fun i3 hi3 => ?_
      (first | refine wXF ?_ | exact wZF)
      -- out ++ ([35, 60] ++ text) ++ [32, 46, 46, 46]: what is there, [62]: what is written, i3: the Builder's place, hi3: its word, i4: the place behind
      refine callG (WriteString_w _ _ way2 ⟨some wb, wc⟩ true (out ++ ([35, 60] ++ text) ++ [32, 46, 46, 46]) ([62]) i3 hi3 (by first | omega | (simp; omega))) [0, 1, 2, 3] rfl ⟨rfl, rfl, rfl, rfl, trivial⟩ rfl fun i4 hi4 => ?_
      (first | refine wXF ?_ | exact wZF)
      -- i4: the Builder's place
      refine DrawN.plan [0, 1, 5] [(2, 1), (3, 1), (4, 1), (6, 1), (7, 1), (8, 1), (9, 1), (10, 1), (11, 1), (12, 1), (13, 1)] [(14, 0)] (by decide +kernel) ?_
      (first | refine wXD ?_ | exact wZD)
      rw [show IntKind.i64.wrap ((way2.length : Int) - 1) = (way.length : Int) by rw [wrap_i64 (by omega)]; omega]
      refine ReadW.slc_hi rfl (by kernel_rfl) rfl rfl (by show (0 : Int) ≤ (way.length : Int) ∧ (way.length : Int) ≤ (wc : Int); omega) ?_
      rw [Int.toNat_natCast]
      (first | refine wXD ?_ | exact wZD)
      refine ⟨(i4, ⟨some wb, wc⟩), ⟨hi4, (fun h => by cases h), by show way.length ≤ wc; omega, fun h => by have : wc = 0 := h; omega⟩, rfl, ⟨rfl, rfl, rfl, rfl, rfl, trivial⟩, wkE_refl _, .inr (.inr ⟨rfl, rfl, ?_, rfl, by omega, rfl⟩), wkE_refl _, trivial⟩
      rw [hway2, Nat.mul_one]
      simp [iC]
    | false =>
    rw [if_neg (of_decide_eq_false hun)]
    (first | refine wXF ?_ | exact wZF)
    -- 8: the kind, [35, 60] ++ text: the front
    rw [← hway2]
    have hnd2 : way2.Nodup := by
      rw [hway2]
      exact List.nodup_append.2 ⟨hw, by simp, fun x hx y hy => by
        rw [List.mem_singleton.1 hy]
        intro e
        subst e
        exact of_decide_eq_false hun hx⟩
    have hr2 : ∀ x ∈ way2, 0 ≤ x ∧ x < (l.length : Int) := fun x hx => by
      rw [hway2] at hx
      rcases List.mem_append.1 hx with hx | hx
      · exact hr x hx
      · rw [List.mem_singleton.1 hx]; omega
    obtain ⟨ff, hff⟩ : ∃ ff, ff = fun o k => writeS 20000 (leafS qt it) (l.map (·.c)) m o way2 k := ⟨_, rfl⟩
    rw [← hff]
    have hfx : ∀ o x, ff o x = writeS 20000 (leafS qt it) (l.map (·.c)) m o way2 x := fun o x => by rw [hff]
    have hpre : ∀ i, (preT (Cell.mk 8 num text names items) i).length ≤ 50 := fun i => by
      have := pre_le hsh (u : Int) i
      rw [hat] at this
      exact this
    have hfold : ∀ k, (foldT ff (preT (Cell.mk 8 num text names items)) 0 (items.take k) (out ++ ([35, 60] ++ text))).length ≤ 130000000 := fun k => by
      have hfl : (out ++ ([35, 60] ++ text)).length ≤ out.length + 2002 := by simp; try omega
      have := foldT_len (M := 20000) (f := ff) (pre := preT (Cell.mk 8 num text names items)) (p := 50) (X := 20000 + m * 200000) hpre (by omega) (fun o k ho => by rw [hff]; exact write_same m o _ k ho) (fun o k ho => by rw [hff]; have := write_len (M := 20000) hsh m o way2 k; show (writeS _ _ _ _ _ _ _).length ≤ _; omega) (items.take k) 0 (out ++ ([35, 60] ++ text)) (22002 + m * 200000) (by omega) (by omega)
      rw [List.length_take] at this
      omega
    refine LoopN.intro (Nat × BSt × BSt) (fun ⟨k, i, j⟩ => k ≤ items.length ∧ i.ok (foldT ff (preT (Cell.mk 8 num text names items)) 0 (items.take k) (out ++ ([35, 60] ++ text))).length ∧ j.ok way2.length) (fun ⟨k, _, _⟩ => mkS Tryz.f99.ntmps 0 [(0, .c (.lp 0 0)), (5, .c (.v (.pointer (some ⟨cb, 0, none⟩)))), (8, .c (.v (.string (bs [62])))), (57, .c (.v (.slice ia items.length ic))), (58, .c (.v (.int .i64 (items.length : Int)))), (59, .c (.v (.int .i64 (k : Int))))])
      (fun ⟨k, i, j⟩ => wH (.slice a l.length ca) (gF a l E) true (foldT ff (preT (Cell.mk 8 num text names items)) 0 (items.take k) (out ++ ([35, 60] ++ text))) i way2 j ++ [.dead, .app 42 5 [.int .i64 8, .int .i64 num, .string (bs text), .slice na names.length nc, .slice ia items.length ic] (some ⟨cb, 0, none⟩) 1 1, .dead]) (fun ⟨k, _, _⟩ => items.length - k) [] rfl (fun ⟨_, _, _⟩ => rfl) (fun ⟨_, _, _⟩ => rfl) (fun ⟨_, _, _⟩ _ => okHB_eq rfl) ?_ ?_
    · refine ⟨(0, i2, ⟨some wb, wc⟩), ⟨Nat.zero_le _, hi2, (fun h => by cases h), by show way2.length ≤ wc; omega, fun h => by have : wc = 0 := h; omega⟩, ?_, wkE_refl _, wkE_refl _, wkE_refl _, wkE_refl _, trivial, wkE_refl _, trivial, trivial⟩
      (repeat' (first | exact trivial | refine And.intro (by with_reducible rfl) ?_ | (with_reducible exact wkC_refl _) | (with_reducible exact wkCs_refl _) | refine And.intro ?_ ?_))
      all_goals rfl
    rintro ⟨k, i3, j3⟩ ⟨hk3, hi3, hj3⟩
    (first | refine wXF ?_ | exact wZF)
    refine brd_dec (fun h1 => ?_) (fun h1 => ?_)
    · obtain ⟨x, hx⟩ : ∃ x, items[k]? = some x := ⟨_, List.getElem?_eq_getElem (by omega)⟩
      have hxin := cellD_in hcd x (List.mem_of_getElem? hx)
      obtain ⟨xn, rfl⟩ : ∃ xn : Nat, x = (xn : Int) := ⟨x.toNat, by omega⟩
      have hx1 : xn < l.length := by omega
      have hsi : ia.isSome = true := by
        have := hpo.ia
        cases ia with
        | none =>
          have h0 : items = [] := this rfl
          rw [h0] at hx
          cases hx
        | some b => rfl
      have hln : names.length = items.length := cellD_lens hcd rfl
      obtain ⟨nm, hnm⟩ : ∃ nm, names[k]? = some nm := ⟨_, List.getElem?_eq_getElem (by omega)⟩
      have hnl40 : nm.length ≤ 40 := cellD_names hcd nm (List.mem_of_getElem? hnm)
      have hsn : na.isSome = true := by
        have := hpo.na
        cases na with
        | none =>
          have h0 : names = [] := this rfl
          rw [h0] at hnm
          cases hnm
        | some b => rfl
      (first | refine wXF ?_ | exact wZF)
      refine Nd.mk ⟨hsi, by omega, by omega⟩ ?_
      (first | refine wXF ?_ | exact wZF)
      refine LdN.one (.int .i64 (xn : Int)) rfl (fun w hw => (hw.2.2.1.1.2 _ hpm).2) (by rw [Int.toNat_natCast]; show (iC items)[k * 1]? = _; rw [Nat.mul_one]; exact iC_get hx) ?_
      (first | refine wXF ?_ | exact wZF)
      refine DrawN.planK hm (fun w => SlAt (some ⟨cb, 0, none⟩) 5 [.int .i64 8, .int .i64 num, .string (bs text), .slice na names.length nc, .slice ia items.length ic] w ∧ SlAt na (names.length * 1) (strC names) w) [3] [0, 4, 8, 10] [(1, 1), (2, 1), (5, 1), (9, 1), (11, 1), (12, 1), (3, 2), (6, 0), (7, 0), (13, 0), (14, 0), (15, 0)] (by decide +kernel) (fun w hw => ⟨hw.2.2.2.1, (hw.2.2.1.1.2 _ hpm).1⟩) ?_
      -- fun w hw => ⟨hw.2.2.2.1, (hw.2.2.1.1.2 _ hpm).1⟩: why the kind holds
      ((conv => whnf); (repeat ((first | refine Nd.mk (fun w hw => ⟨hw.2.2.2.1, (hw.2.2.1.1.2 _ hpm).1⟩) ?_ | refine VrN.norm (wrap_i64 (by omega)) ?_ | refine VrN.keep ?_ | refine Nd.mk (by decide +kernel) ?_ | refine Nd.mk (by omega) ?_ | refine RdN.intro _ rfl (by rfl) ?_); (conv => whnf))))
      refine BlindW.min2 (x := .tmp 68) (y := .const (.int .i64 1)) (a := (k : Int)) (b := 1) rfl rfl ?_ rfl ?_
      · rfl
      -- fun w hw => ⟨hw.2.2.2.1, (hw.2.2.1.1.2 _ hpm).1⟩: why the kind holds
      ((conv => whnf); (repeat ((first | refine Nd.mk (fun w hw => ⟨hw.2.2.2.1, (hw.2.2.1.1.2 _ hpm).1⟩) ?_ | refine VrN.norm (wrap_i64 (by omega)) ?_ | refine VrN.keep ?_ | refine Nd.mk (by decide +kernel) ?_ | refine Nd.mk (by omega) ?_ | refine RdN.intro _ rfl (by rfl) ?_); (conv => whnf))))
      refine ReadC.one (T := 40) (x := .tmp 72) (a := some ⟨cb, 0, none⟩) (q := 3) (k := 5) (xs := [.int .i64 8, .int .i64 num, .string (bs text), .slice na names.length nc, .slice ia items.length ic]) (.slice na names.length nc) ?_ ?_ ?_ ?_ ?_ ?_
      · rfl
      · rfl
      · rfl
      · exact fun w hw => hw.1
      · rfl
      -- fun w hw => ⟨hw.2.2.2.1, (hw.2.2.1.1.2 _ hpm).1⟩: why the kind holds
      ((conv => whnf); (repeat ((first | refine Nd.mk (fun w hw => ⟨hw.2.2.2.1, (hw.2.2.1.1.2 _ hpm).1⟩) ?_ | refine VrN.norm (wrap_i64 (by omega)) ?_ | refine VrN.keep ?_ | refine Nd.mk (by decide +kernel) ?_ | refine Nd.mk (by omega) ?_ | refine RdN.intro _ rfl (by rfl) ?_); (conv => whnf))))
      refine ReadC.idxA (T := 40) (x := .tmp 73) (i := .tmp 74) (kk := .i64) (e := 9) (sz := 1) (a := na) (n := names.length) (cap := nc) k rfl Tryz.underlying40 rfl rfl ?_ ?_ hsn (by omega) ?_
      · rfl
      · rfl
      -- fun w hw => ⟨hw.2.2.2.1, (hw.2.2.1.1.2 _ hpm).1⟩: why the kind holds
      ((conv => whnf); (repeat ((first | refine Nd.mk (fun w hw => ⟨hw.2.2.2.1, (hw.2.2.1.1.2 _ hpm).1⟩) ?_ | refine VrN.norm (wrap_i64 (by omega)) ?_ | refine VrN.keep ?_ | refine Nd.mk (by decide +kernel) ?_ | refine Nd.mk (by omega) ?_ | refine RdN.intro _ rfl (by rfl) ?_); (conv => whnf))))
      refine ReadC.one (T := 9) (x := .tmp 75) (a := na) (q := k * 1) (k := names.length * 1) (xs := strC names) (.string (bs nm)) ?_ ?_ ?_ ?_ ?_ ?_
      · rfl
      · rfl
      · rfl
      · exact fun w hw => hw.2
      · rw [Nat.mul_one]; exact strC_get hnm
      -- fun w hw => ⟨hw.2.2.2.1, (hw.2.2.1.1.2 _ hpm).1⟩: why the kind holds
      ((conv => whnf); (repeat ((first | refine Nd.mk (fun w hw => ⟨hw.2.2.2.1, (hw.2.2.1.1.2 _ hpm).1⟩) ?_ | refine VrN.norm (wrap_i64 (by omega)) ?_ | refine VrN.keep ?_ | refine Nd.mk (by decide +kernel) ?_ | refine Nd.mk (by omega) ?_ | refine RdN.intro _ rfl (by rfl) ?_); (conv => whnf))))
      intro rb
      -- fun w hw => ⟨hw.2.2.2.1, (hw.2.2.1.1.2 _ hpm).1⟩: why the kind holds
      ((conv => whnf); (repeat ((first | refine Nd.mk (fun w hw => ⟨hw.2.2.2.1, (hw.2.2.1.1.2 _ hpm).1⟩) ?_ | refine VrN.norm (wrap_i64 (by omega)) ?_ | refine VrN.keep ?_ | refine Nd.mk (by decide +kernel) ?_ | refine Nd.mk (by omega) ?_ | refine RdN.intro _ rfl (by rfl) ?_); (conv => whnf))))
      refine Nd.mk ⟨rfl, by unfold minI; split <;> omega, by unfold minI; split <;> omega⟩ ?_
      -- fun w hw => ⟨hw.2.2.2.1, (hw.2.2.1.1.2 _ hpm).1⟩: why the kind holds
      ((conv => whnf); (repeat ((first | refine Nd.mk (fun w hw => ⟨hw.2.2.2.1, (hw.2.2.1.1.2 _ hpm).1⟩) ?_ | refine VrN.norm (wrap_i64 (by omega)) ?_ | refine VrN.keep ?_ | refine Nd.mk (by decide +kernel) ?_ | refine Nd.mk (by omega) ?_ | refine RdN.intro _ rfl (by rfl) ?_); (conv => whnf))))
      obtain ⟨sp, hsp⟩ : ∃ sp : List UInt8, sp = if k = 0 then [32] else [44, 32] := ⟨_, rfl⟩
      have hspl : sp.length ≤ 2 := by rw [hsp]; split <;> simp
      refine LdN.one (a := some ⟨rb, 0, none⟩) (xs := [.string { data := #[32] }, .string { data := #[44, 32] }]) (.string (bs sp)) rfl (fun w hw => hw.2.2.2.2.1) ?_ ?_
      · rw [hsp]
        rcases Nat.eq_zero_or_pos k with hk0 | hk0
        · rw [if_pos hk0, hk0]; rfl
        · rw [if_neg (by omega), show minI (k : Int) 1 = if k = 1 then 1 else 1 by unfold minI; split <;> split <;> omega]
          split <;> rfl
      -- fun w hw => ⟨hw.2.2.2.1, (hw.2.2.1.1.2 _ hpm).1⟩: why the kind holds
      ((conv => whnf); (repeat ((first | refine Nd.mk (fun w hw => ⟨hw.2.2.2.1, (hw.2.2.1.1.2 _ hpm).1⟩) ?_ | refine VrN.norm (wrap_i64 (by omega)) ?_ | refine VrN.keep ?_ | refine Nd.mk (by decide +kernel) ?_ | refine Nd.mk (by omega) ?_ | refine RdN.intro _ rfl (by rfl) ?_); (conv => whnf))))
      refine Nd.mk (by rw [bs_size, bs_size]; omega) ?_
      rw [bs_app]
      -- fun w hw => ⟨hw.2.2.2.1, (hw.2.2.1.1.2 _ hpm).1⟩: why the kind holds
      ((conv => whnf); (repeat ((first | refine Nd.mk (fun w hw => ⟨hw.2.2.2.1, (hw.2.2.1.1.2 _ hpm).1⟩) ?_ | refine VrN.norm (wrap_i64 (by omega)) ?_ | refine VrN.keep ?_ | refine Nd.mk (by decide +kernel) ?_ | refine Nd.mk (by omega) ?_ | refine RdN.intro _ rfl (by rfl) ?_); (conv => whnf))))
      refine Nd.mk (by show (bs (sp ++ nm)).size + 1 < _; rw [bs_size]; simp; omega) ?_
      rw [show (bs (sp ++ nm) ++ ({ data := #[61] } : ByteArray)) = bs (sp ++ nm ++ [61]) by rw [← bs_app]; rfl]
      -- fun w hw => ⟨hw.2.2.2.1, (hw.2.2.1.1.2 _ hpm).1⟩: why the kind holds
      ((conv => whnf); (repeat ((first | refine Nd.mk (fun w hw => ⟨hw.2.2.2.1, (hw.2.2.1.1.2 _ hpm).1⟩) ?_ | refine VrN.norm (wrap_i64 (by omega)) ?_ | refine VrN.keep ?_ | refine Nd.mk (by decide +kernel) ?_ | refine Nd.mk (by omega) ?_ | refine RdN.intro _ rfl (by rfl) ?_); (conv => whnf))))
      have hnd : names.getD k [] = nm := by rw [List.getD_eq_getElem?_getD, hnm]; rfl
      refine callG (WriteString_w _ _ way2 j3 true (foldT ff (preT (Cell.mk 8 num text names items)) 0 (items.take k) (out ++ ([35, 60] ++ text))) (sp ++ nm ++ [61]) i3 hi3 (by have := hfold k; simp only [List.length_append, List.length_cons, List.length_nil] at this ⊢; omega)) [0, 1, 2, 3] rfl ⟨rfl, rfl, rfl, rfl, trivial⟩ rfl fun i6 hi6 => ?_
      -- fun w hw => ⟨hw.2.2.2.1, (hw.2.2.1.1.2 _ hpm).1⟩: why the kind holds
      ((conv => whnf); (repeat ((first | refine Nd.mk (fun w hw => ⟨hw.2.2.2.1, (hw.2.2.1.1.2 _ hpm).1⟩) ?_ | refine VrN.norm (wrap_i64 (by omega)) ?_ | refine VrN.keep ?_ | refine Nd.mk (by decide +kernel) ?_ | refine Nd.mk (by omega) ?_ | refine RdN.intro _ rfl (by rfl) ?_); (conv => whnf))))
      (first | refine wXF ?_ | exact wZF)
      refine callG (ih (by omega) (foldT ff (preT (Cell.mk 8 num text names items)) 0 (items.take k) (out ++ ([35, 60] ++ text)) ++ (sp ++ nm ++ [61])) way2 i6 j3 xn hi6 hj3 hx1 hnd2 hr2 (by omega) (by have := hfold k; simp only [List.length_append, List.length_cons, List.length_nil] at this ⊢; omega)) [0, 1, 2, 3] rfl ⟨rfl, rfl, rfl, rfl, trivial⟩ rfl fun st hst => ?_
      obtain ⟨i5, j5⟩ := st
      obtain ⟨hi5, hj5⟩ := hst
      simp only at hi5 hj5
      (first | refine wXF ?_ | exact wZF)
      have hfs := foldT_take (f := ff) (pre := preT (Cell.mk 8 num text names items)) hx (out ++ ([35, 60] ++ text))
      rw [show preT (Cell.mk 8 num text names items) k = sp ++ nm ++ [61] from by rw [preT_8 rfl, ← hsp]; show sp ++ names.getD k [] ++ [61] = _; rw [hnd], hfx] at hfs
      refine ⟨(k + 1, i5, j5), ⟨by omega, by rw [hfs]; exact hi5, hj5⟩, by show items.length - (k + 1) < items.length - k; omega, ?_, ?_⟩
      · (repeat' (first | exact trivial | refine And.intro (by with_reducible rfl) ?_ | (with_reducible exact wkC_refl _) | (with_reducible exact wkCs_refl _) | refine And.intro ?_ ?_))
        all_goals first | rfl | exact av_int (by rw [wrap_i64 (by omega)]; omega) | exact av_int (by omega)
      · show wkH _ (wH _ _ true (foldT ff _ 0 (items.take (k + 1)) _) _ _ _ ++ _)
        rw [hfs]
        exact ⟨wkE_refl _, wkE_refl _, wkE_refl _, wkE_refl _, trivial, wkE_refl _, trivial, trivial⟩
    · have hin : k = items.length := by omega
      subst hin
      rw [List.take_length] at hi3 ⊢
      have hfe := hfold items.length
      rw [List.take_length] at hfe
      obtain ⟨wb, wc⟩ := j3
      cases wb with
      | none =>
        have := (hj3.1 rfl).1
        omega
      | some wb =>
      have hwc3 : way2.length ≤ wc := hj3.2.1
      (first | refine wXF ?_ | exact wZF)
      refine callG (WriteString_w _ _ way2 ⟨some wb, wc⟩ true (foldT ff (preT (Cell.mk 8 num text names items)) 0 items (out ++ ([35, 60] ++ text))) [62] i3 hi3 (by simp only [List.length_cons, List.length_nil]; omega)) [0, 1, 2, 3] rfl ⟨rfl, rfl, rfl, rfl, trivial⟩ rfl fun i7 hi7 => ?_
      (first | refine wXF ?_ | exact wZF)
      -- i7: the Builder's place
      refine DrawN.plan [0, 1, 5] [(2, 1), (3, 1), (4, 1), (6, 1), (7, 1), (8, 1), (9, 1), (10, 1), (11, 1), (12, 1), (13, 1)] [(14, 0)] (by decide +kernel) ?_
      (first | refine wXD ?_ | exact wZD)
      rw [show IntKind.i64.wrap ((way2.length : Int) - 1) = (way.length : Int) by rw [wrap_i64 (by omega)]; omega]
      refine ReadW.slc_hi rfl (by kernel_rfl) rfl rfl (by show (0 : Int) ≤ (way.length : Int) ∧ (way.length : Int) ≤ (wc : Int); omega) ?_
      rw [Int.toNat_natCast]
      (first | refine wXD ?_ | exact wZD)
      refine ⟨(i7, ⟨some wb, wc⟩), ⟨hi7, (fun h => by cases h), by show way.length ≤ wc; omega, fun h => by have : wc = 0 := h; omega⟩, rfl, ⟨rfl, rfl, rfl, rfl, rfl, trivial⟩, wkE_refl _, .inr (.inr ⟨rfl, rfl, ?_, rfl, by omega, rfl⟩), wkE_refl _, trivial⟩
      rw [hway2, Nat.mul_one]
      simp [iC]
end Go.Proofs.YtahjbnfbilkbcaaGreatDoor

/-
  Contract: Text (program).
-/
namespace Go.Proofs.YtahjbnfbilkbcaaGreatDoor
open Go.AX Go.RowKit Go.Core Go.Scan
set_option maxRecDepth 20000

/-- The text that is told. -/
def textP (lf : Cell → List UInt8) (g : List Cell) (u : Int) : List UInt8 := (writeS 20000 lf g (g.length + 2) [] [] u).take 20000
set_option maxHeartbeats 4000000 in
theorem Text_c {a : Option Addr} (ca : Nat) {l : List CellP} {E : World → Prop} {qt : List UInt8 → List UInt8} {it : Int → List UInt8} (ha : a = none → l = []) (hs : Small l) (hok : ∀ p ∈ l, CellOk p) (V : ValidP (l.map (·.c)) → WEnv a l E qt it) (u : Int) :
    ∀ H, (∀ w, Facts H w → gF a l E w) → ∃ e : Bool, (e = true ↔ AskP (l.map (·.c)) [u]) ∧ SpecH Tryz.prog 20 (pvs [.slice a l.length ca, .int .i64 u]) H (Ret (.tuple #[.string (bs (if e then textP (leafS qt it) (l.map (·.c)) u else [])), errI e]) H) := by
  intro H hH
  obtain ⟨e, he⟩ : ∃ b : Bool, b = true ↔ AskP (l.map (·.c)) [u] := by
    by_cases h : AskP (l.map (·.c)) [u]
    · exact ⟨true, fun _ => h, fun _ => rfl⟩
    · exact ⟨false, (fun h => by cases h), fun h2 => absurd h2 h⟩
  refine ⟨e, he, ?_⟩
  refine factC hm Tryz.func20 (by kernel_rfl) rfl rfl ?_ H hH
  ((conv => whnf); (repeat ((first | refine BoxN.own ?_ | refine VrN.norm (wrap_i64 (by omega)) ?_ | refine VrN.keep ?_ | refine DrawN.calm (by decide +kernel) ?_ | refine Nd.mk (by decide +kernel) ?_ | refine Nd.mk (by omega) ?_ | (refine Nd.mk ?_ ?_; focus ((repeat' (first | exact trivial | exact wkE_refl _ | refine And.intro ?_ ?_)); done)) | refine RdN.intro _ rfl (by rfl) ?_); (conv => whnf))))
  refine RwN.known [.int .i64 u] rfl fun rb => ?_
  ((conv => whnf); (repeat ((first | refine BoxN.own ?_ | refine VrN.norm (wrap_i64 (by omega)) ?_ | refine VrN.keep ?_ | refine DrawN.calm (by decide +kernel) ?_ | refine Nd.mk (by decide +kernel) ?_ | refine Nd.mk (by omega) ?_ | (refine Nd.mk ?_ ?_; focus ((repeat' (first | exact trivial | exact wkE_refl _ | refine And.intro ?_ ?_)); done)) | refine RdN.intro _ rfl (by rfl) ?_); (conv => whnf))))
  obtain ⟨t, ht1, ht2⟩ := asked_c a ca l ha hs hok (some ⟨rb, 0, none⟩) 1 [u] (fun h => by cases h) (by simp) [.fact (gF a l E), .app 3 1 [.int .i64 u] (some ⟨rb, 0, none⟩) 1 1] (fun w hw => ⟨hw.1.1, hw.2.1⟩)
  obtain rfl : t = e := by rw [Bool.eq_iff_iff, ht1, he]
  refine call1 ht2 ?_
  cases t with
  | false =>
    (first | refine wX ?_ | exact wZ)
    rfl
  | true =>
    have hask := he.1 rfl
    have hu := hask.2 u (by simp)
    obtain ⟨v, rfl⟩ : ∃ v : Nat, u = (v : Int) := ⟨u.toNat, by omega⟩
    have hgl : (l.map (·.c)).length = l.length := by simp
    have h500 := hask.1.1
    have hwe := V hask.1
    (first | refine wX ?_ | exact wZ)
    refine SpecH.pad [.app 5 1 [] none 0 0, .app 3 1 [] none 0 0] rfl ?_
    have hok0 : BSt.ok (0 : Nat) ⟨none, 0⟩ := ⟨fun _ => ⟨rfl, rfl⟩, Nat.le_refl _, fun _ => rfl⟩
    refine callG (write_f ca hwe (l.length + 1) (by omega) [] [] ⟨none, 0⟩ ⟨none, 0⟩ v hok0 hok0 (by omega) List.nodup_nil (fun x hx => by cases hx) (by simp) (by simp)) [2, 3, 4, 0] rfl ⟨rfl, rfl, rfl, rfl, trivial⟩ rfl fun st hst => ?_
    obtain ⟨i2, j2⟩ := st
    obtain ⟨hi2, hj2⟩ := hst
    simp only at hi2 hj2
    have htp : textP (leafS qt it) (l.map (·.c)) (v : Int) = (writeS 20000 (leafS qt it) (l.map (·.c)) (l.length + 1 + 1) [] [] (v : Int)).take 20000 := by unfold textP; rw [hgl]
    rw [htp]
    generalize writeS 20000 (leafS qt it) (l.map (·.c)) (l.length + 1 + 1) [] [] (v : Int) = T at *
    (first | refine wX ?_ | exact wZ)
    refine callG (String_w _ _ [] j2 true T i2 hi2) [2, 3, 4, 0] rfl ⟨rfl, rfl, rfl, rfl, trivial⟩ rfl fun _ _ => ?_
    (first | refine wX ?_ | exact wZ)
    rw [bs_size]
    refine ReadW.sl_h (min T.length 20000) rfl Tryz.underlying9 rfl rfl ⟨by unfold minI; split <;> omega, Nat.min_le_left _ _⟩ ?_
    rw [show T.take (min T.length 20000) = T.take 20000 by
      rcases Nat.le_total T.length 20000 with h | h
      · rw [Nat.min_eq_left h, List.take_of_length_le (Nat.le_refl _), List.take_of_length_le h]
      · rw [Nat.min_eq_right h]]
    (first | refine wX ?_ | exact wZ)
    rfl
end Go.Proofs.YtahjbnfbilkbcaaGreatDoor

/-
  Numbers and quoted texts, as both writers write them.
-/
namespace Go.Proofs.YtahjbnfbilkbcaaGreatDoor
open Go.AX Go.RowKit Go.Core Go.Scan
set_option maxRecDepth 20000

/-- The table that strconv reads. -/
def TabF (w : World) : Prop := Lib.TabIs Tryz.prog w "internal/strconv.uint64pow10" .u64 Lib.pow10Tab
def qL (s : List UInt8) : List UInt8 := s.flatMap qt
def itL (x : Int) : List UInt8 := if -9223372036854775808 ≤ x ∧ x ≤ 9223372036854775807 then Lib.itoa x else []
theorem qL_le (s : List UInt8) : (qL s).length ≤ 2 * s.length := flat_le qt_2 s
theorem itL_le (x : Int) : (itL x).length ≤ 30 := by
  unfold itL
  split
  · have := Lib.itoa_length_le x (by omega) (by omega); omega
  · exact Nat.zero_le _
theorem Itoa_c (n : Int) (hn : -9223372036854775808 ≤ n ∧ n ≤ 9223372036854775807) : ∀ H, (∀ w, Facts H w → TabF w) → SpecH Tryz.prog 97 (pvs [.int .i64 n]) H (Ret (.string (bs (itL n))) H) := fun H hF => by
  rw [show itL n = Lib.itoa n from if_pos hn]
  exact SpecH.rawP (R := fun r => r = .string (bs (Lib.itoa n))) (callOk Tryz.func97 (by kernel_rfl) rfl) (fun w hw => (Tryz.strconv_Itoa n (by omega) (by omega) w (hF w hw)).mono fun e w' ⟨he, k, os, hw'⟩ => ⟨_, he, rfl, by subst hw'; exact Lib.below_grow _ _ (Nat.le_refl _) k os⟩) fun r hr => by subst hr; exact ⟨rfl, rfl⟩
theorem cellD_num {n : Nat} {c : Cell} (h : cellD n c = true) (h3 : c.kind = 3) : -9223372036854775808 ≤ c.num ∧ c.num ≤ 9223372036854775807 := by
  unfold cellD at h
  rw [if_pos h3] at h
  simp only [Bool.and_eq_true, decide_eq_true_eq] at h
  have h1 := h.2.1.2
  have h2 := h.2.2
  unfold Go.Core.maxI at h1 h2
  omega
theorem envL {a : Option Addr} {l : List CellP} (ha : a = none → l = []) (hs : Small l) (hok : ∀ p ∈ l, CellOk p) (hv : ValidP (l.map (·.c))) : WEnv a l TabF qL itL := by
  refine ⟨ha, hs, hok, hv, fun p hp h4 H => ?_, qL_le, fun p hp h3 H hH => ?_, itL_le⟩
  · have := cellD_text (hv.2.1 _ (List.mem_map_of_mem hp))
    exact Quote_c p.c.text (by omega) H
  · exact Itoa_c _ (cellD_num (hv.2.1 _ (List.mem_map_of_mem hp)) h3) H hH
end Go.Proofs.YtahjbnfbilkbcaaGreatDoor

/-
  Contract: the document writes a cell.
-/
namespace Go.Core
end Go.Core
namespace Go.Proofs.YtahjbnfbilkbcaaGreatDoor
open Go.AX Go.RowKit Go.Core Go.Scan
set_option maxRecDepth 20000

section
attribute [local irreducible] Int.decLt
end
end Go.Proofs.YtahjbnfbilkbcaaGreatDoor

/-
  Contract: the first example of the chapter (law).
-/
namespace Go.Proofs.YtahjbnfbilkbcaaGreatDoor
open Go.AX Go.RowKit Go.Core Go.Scan
set_option maxRecDepth 20000

def exC : Cell := ⟨6, 0, [], [], [0]⟩
def exP (ib : Nat) : CellP := ⟨exC, none, 0, some ⟨ib, 0, none⟩, 1⟩
def qI (s : List UInt8) : List UInt8 := s
def iI (_ : Int) : List UInt8 := []
theorem ex_val : ValidP [exC] := ⟨by decide, fun c hc => by rw [List.mem_singleton.1 hc]; decide, fun c hc h => by rw [List.mem_singleton.1 hc] at h; exact absurd h (by decide)⟩
theorem ex_ask : AskP [exC] [0] := ⟨ex_val, fun x hx => by rw [List.mem_singleton.1 hx]; decide⟩
theorem ex_text : textP (leafS qI iI) [exC] 0 = [91, 91, 46, 46, 46, 93, 93] := by decide +kernel
theorem ex_env (ib gb : Nat) : WEnv (some ⟨gb, 0, none⟩) [exP ib] (fun _ => True) qI iI := by
  refine ⟨(fun h => by cases h), ⟨by simp, fun p hp => ?_⟩, fun p hp => ?_, ex_val, fun p hp h => ?_, fun s => ?_, fun p hp h => ?_, fun x => Nat.zero_le _⟩
  · rw [List.mem_singleton.1 hp]; exact ⟨by show (0 : Nat) ≤ 2000; omega, by show (1 : Nat) ≤ 2000; omega⟩
  · rw [List.mem_singleton.1 hp]
    exact ⟨(fun _ => rfl), (fun h => by cases h), by show (0 : Nat) ≤ _; omega, by show (1 : Nat) ≤ _; omega, (fun s hs => by cases hs), by show (0 : Nat) ≤ _; omega, Nat.le_refl _, Nat.le_refl _⟩
  · rw [List.mem_singleton.1 hp] at h; exact absurd (show (6 : Int) = 4 from h) (by decide)
  · show s.length ≤ 2 * s.length; omega
  · rw [List.mem_singleton.1 hp] at h; exact absurd (show (6 : Int) = 3 from h) (by decide)
set_option maxHeartbeats 4000000 in
theorem sane_c : ∀ H, SpecH Tryz.prog 15 (pvs []) H (Ret (.bool true) H) := by
  refine pureC hm Tryz.func15 (by kernel_rfl) rfl rfl ?_
  ((conv => whnf); (repeat ((first | refine BoxN.own ?_ | refine VrN.norm (wrap_i64 (by omega)) ?_ | refine VrN.keep ?_ | refine DrawN.calm (by decide +kernel) ?_ | refine Nd.mk (by decide +kernel) ?_ | refine Nd.mk (by omega) ?_ | (refine Nd.mk ?_ ?_; focus ((repeat' (first | exact trivial | exact wkE_refl _ | refine And.intro ?_ ?_)); done)) | refine RdN.intro _ rfl (by rfl) ?_); (conv => whnf))))
  refine RwN.known [.int .i64 0] rfl fun ib => ?_
  ((conv => whnf); (repeat ((first | refine BoxN.own ?_ | refine VrN.norm (wrap_i64 (by omega)) ?_ | refine VrN.keep ?_ | refine DrawN.calm (by decide +kernel) ?_ | refine Nd.mk (by decide +kernel) ?_ | refine Nd.mk (by omega) ?_ | (refine Nd.mk ?_ ?_; focus ((repeat' (first | exact trivial | exact wkE_refl _ | refine And.intro ?_ ?_)); done)) | refine RdN.intro _ rfl (by rfl) ?_); (conv => whnf))))
  refine RwN.known [.int .i64 6, .int .i64 0, .string { data := #[] }, .slice none 0 0, .slice (some ⟨ib, 0, none⟩) 1 1] rfl fun gb => ?_
  ((conv => whnf); (repeat ((first | refine BoxN.own ?_ | refine VrN.norm (wrap_i64 (by omega)) ?_ | refine VrN.keep ?_ | refine DrawN.calm (by decide +kernel) ?_ | refine Nd.mk (by decide +kernel) ?_ | refine Nd.mk (by omega) ?_ | (refine Nd.mk ?_ ?_; focus ((repeat' (first | exact trivial | exact wkE_refl _ | refine And.intro ?_ ?_)); done)) | refine RdN.intro _ rfl (by rfl) ?_); (conv => whnf))))
  have he := ex_env ib gb
  obtain ⟨e, he1, he2⟩ := Text_c (E := fun _ => True) 1 he.ha he.sm he.ok (fun _ => he) 0 [.app 3 1 [.int .i64 0] (some ⟨ib, 0, none⟩) 1 1, .app 42 5 [.int .i64 6, .int .i64 0, .string { data := #[] }, .slice none 0 0, .slice (some ⟨ib, 0, none⟩) 1 1] (some ⟨gb, 0, none⟩) 1 1] (fun w hw => ⟨⟨hw.2.1, fun p hp => by
    rw [List.mem_singleton.1 hp]
    exact ⟨SlAt.nil, hw.1⟩⟩, trivial⟩)
  obtain rfl : e = true := he1.2 ex_ask
  have hx : (if true = true then textP (leafS qI iI) ([exP ib].map (·.c)) 0 else []) = [91, 91, 46, 46, 46, 93, 93] := ex_text
  rw [hx] at he2
  refine call1 he2 ?_
  (first | refine wX ?_ | exact wZ)
  rfl
end Go.Proofs.YtahjbnfbilkbcaaGreatDoor

/-
  Contracts: Is and Text (document); CoreTexts (law).
-/
namespace Go.Proofs.YtahjbnfbilkbcaaGreatDoor
open Go.AX Go.RowKit Go.Core Go.Scan
set_option maxRecDepth 20000

theorem small_as {l m : List CellP} (hs : Small l) (h : m.map (·.c) = l.map (·.c)) : Small m := by
  refine ⟨by have := congrArg List.length h; simp at this; have := hs.1; omega, fun p hp => ?_⟩
  have h1 : p.c ∈ l.map (·.c) := h ▸ List.mem_map_of_mem hp
  obtain ⟨q, hq, e⟩ := List.mem_map.1 h1
  rw [← e]
  exact hs.2 q hq
theorem RIs_c (a : Option Addr) (ca : Nat) (l : List CellP) (ha : a = none → l = []) (hl : l.length ≤ 200000000000000) (hok : ∀ p ∈ l, CellOk p) (u : Int) :
    ∀ H, (∀ w, Facts H w → GrF a l w) → ∃ b : Bool, (b = true ↔ AskP (l.map (·.c)) [u]) ∧ SpecH Tryz.prog 53 (pvs [.slice a l.length ca, .int .i64 u]) H (Ret (.bool b) H) := by
  intro H hH
  obtain ⟨b, hb⟩ : ∃ b : Bool, b = true ↔ AskP (l.map (·.c)) [u] := by
    by_cases h : AskP (l.map (·.c)) [u]
    · exact ⟨true, fun _ => h, fun _ => rfl⟩
    · exact ⟨false, (fun h => by cases h), fun h2 => absurd h2 h⟩
  refine ⟨b, hb, ?_⟩
  have hgl : (l.map (·.c)).length = l.length := by simp
  refine factC hm Tryz.func53 (by kernel_rfl) rfl rfl ?_ H hH
  (first | refine wX ?_ | exact wZ)
  obtain ⟨v, hv1, hv2⟩ := Valid_c a ca l ha hl hok [.fact (GrF a l)] (fun w hw => hw.1)
  refine call1 hv2 ?_
  cases v with
  | false =>
    (first | refine wX ?_ | exact wZ)
    exact out_bool (by
      cases b with
      | false => rfl
      | true => exact absurd (hv1.2 (hb.1 rfl).1) (by decide))
  | true =>
    (first | refine wX ?_ | exact wZ)
    refine brd_dec (fun h1 => ?_) (fun h1 => ?_)
    · (first | refine wX ?_ | exact wZ)
      refine out_bool ?_
      rw [Bool.eq_iff_iff, hb, decide_eq_true_eq]
      constructor
      · intro h
        exact ⟨hv1.1 rfl, fun x hx => by rw [List.mem_singleton.1 hx]; omega⟩
      · intro h
        have := h.2 u (by simp)
        omega
    · (first | refine wX ?_ | exact wZ)
      refine out_bool ?_
      cases b with
      | false => rfl
      | true => have := (hb.1 rfl).2 u (by simp); omega
end Go.Proofs.YtahjbnfbilkbcaaGreatDoor

/-
  For rows: the table of the powers of ten in a laid world, and the range of an int.
-/
namespace Go.Proofs.YtahjbnfbilkbcaaGreatDoor
open Go.ChangeShapes Go.WideShapes Go.ChangeAt Go.RowKit Go.AX Go.Core
set_option maxRecDepth 100000

theorem tabL_of {W : World} (h : laidMetH Tryz.prog laid3 W) : TabF W := by
  rw [MakeChecks.laidMetH_plain _ _ _ (by kernel_rfl)] at h
  exact Lib.tabIs_of_head (rest := []) (g := 1) (t := 201) (e := 187) (n := 20) (by kernel_rfl) (by kernel_rfl) (by kernel_rfl) (by kernel_rfl) (by kernel_rfl) (by kernel_rfl) (laid_tail (laid_tail h))
end Go.Proofs.YtahjbnfbilkbcaaGreatDoor

/-
  What the struct Two of the law's arguments holds.
-/
namespace Go.Proofs.YtahjbnfbilkbcaaGreatDoor
open Go.ChangeShapes Go.WideShapes Go.ChangeAt Go.RowKit Go.AX Go.Core
set_option maxRecDepth 100000

theorem two_read {H : Type} {enc : TypeId × Value → H} {w : World} {n : Nat} {cs : List Value} {y : DataW H × List MemPlace} (h : DataW.trod enc Tryz.prog w 0 (fun _ => true) true n 69 cs = some y) (hk : ∀ k ∈ y.1.weights Tryz.prog 69, k ≤ reachBytes) :
    ∃ (a b : Option Addr) (l m : List CellP) (c d : Nat) (z1 z2 : Int), cs = [.slice a l.length c, .slice b m.length d, .int .i64 z1, .int .i64 z2] ∧ (a = none → l = []) ∧ (b = none → m = []) ∧ l.length ≤ 200000000000000 ∧ m.length ≤ 200000000000000 ∧ (∀ p ∈ l, CellOk p) ∧ (∀ p ∈ m, CellOk p) ∧ GrF a l w ∧ GrF b m w := by
  have cT : Tryz.prog.cellsOf 3 = 1 := by kernel_rfl
  have cI : Tryz.prog.cellsOf 22 = 1 := by kernel_rfl
  have cP : Tryz.prog.cellsOf 69 = 4 := by kernel_rfl
  obtain ⟨xs, n', _, hx, hlen, hxl, hf⟩ := DataW.trod_struct Tryz.underlying69 h
  have h0 := hf 0 _ rfl
  have h1 := hf 1 _ rfl
  have h2 := hf 2 _ rfl
  have h3 := hf 3 _ rfl
  match xs, hxl with
  | [y0, y1, y2, y3], _ =>
    have hw : ∀ k, k ∈ y0.1.weights Tryz.prog 22 ∨ k ∈ y1.1.weights Tryz.prog 22 → k ≤ reachBytes := fun k hk2 => hk k (by
      rw [hx]
      simp only [DataW.weights, Tryz.underlying69]
      simp [DataW.weightsEach]
      rcases hk2 with h | h
      · exact .inl h
      · exact .inr (.inl h))
    obtain ⟨a, l, c, e0, hl, hs, hn, hq⟩ := rows_in (m := 5) cellC (fun _ => rfl) Tryz.underlying22 (by kernel_rfl) (by decide +kernel) cell_read h0 (fun k hk2 => hw k (.inl hk2))
    obtain ⟨b, m, d, e1, hl2, hs2, hn2, hq2⟩ := rows_in (m := 5) cellC (fun _ => rfl) Tryz.underlying22 (by kernel_rfl) (by decide +kernel) cell_read h1 (fun k hk2 => hw k (.inr hk2))
    obtain ⟨z1, e2, _⟩ := DataW.trod_int Tryz.underlying3 h2
    obtain ⟨z2, e3, _⟩ := DataW.trod_int Tryz.underlying3 h3
    rw [cP] at hlen
    match cs, hlen with
    | [d0, d1, d2, d3], _ =>
      have f0 : List.take (Tryz.prog.cellsOf 22) (List.drop 0 [d0, d1, d2, d3]) = [.slice a l.length c] := e0
      have f1 : List.take (Tryz.prog.cellsOf 22) (List.drop 1 [d0, d1, d2, d3]) = [.slice b m.length d] := e1
      have f2 : List.take (Tryz.prog.cellsOf 3) (List.drop 2 [d0, d1, d2, d3]) = [.int .i64 z1] := e2
      have f3 : List.take (Tryz.prog.cellsOf 3) (List.drop 3 [d0, d1, d2, d3]) = [.int .i64 z2] := e3
      clear e0 e1 e2 e3
      rw [cI] at f0 f1
      rw [cT] at f2 f3
      simp at f0 f1 f2 f3
      subst f0 f1 f2 f3
      exact ⟨a, b, l, m, c, d, z1, z2, rfl, hn, hn2, hl, hl2, fun p hp => (hq p hp).1, fun p hp => (hq2 p hp).1, ⟨hs, fun p hp => (hq p hp).2⟩, ⟨hs2, fun p hp => (hq2 p hp).2⟩⟩
end Go.Proofs.YtahjbnfbilkbcaaGreatDoor

/-
  AX, fifty-second text: ahead of a call, what is known said in another way.
-/
namespace Go.AX
theorem SpecH.turn {P : Program} {f : FuncId} {args : List AV} {H : List Ent} {K : Out → List Ent → Prop} (G : List Ent) (t : SealR (Facts (restK H G)) H G) (h : SpecH P f args G K) : SpecH P f args H K := by
  refine ⟨h.ok, fun ρ S w vs hs hr => ?_⟩
  obtain ⟨S', hs', hev⟩ := (turnS t).2 ρ S w hs
  exact (h.run ρ S' w vs hs' hr).mono fun e w' ⟨ρ2, S2, H2, out, a1, a2, a3, a4⟩ => ⟨ρ2, S2, H2, out, a1, hev.trans a2, a3, a4⟩
end Go.AX

/-
  AX, fifty-fourth text: families of rows of the call's own (.fam), rows put in and taken out; calls that see facts and hand back own entries.
-/
namespace Go.AX

/-- A row of a family. -/
structure RowD where
  T : TypeId
  sz : Nat
  n : Nat
  xs : List Value
  b : Nat
  cap : Nat
def RowD.ok (r : RowD) (w : World) : Prop := RowF r.T r.sz r.n r.xs r.b r.cap w
def RowD.app (r : RowD) : Ent := .app r.T r.sz r.xs (some ⟨r.b, 0, none⟩) r.n r.cap
def famB (l : List RowD) (b : Nat) : Prop := ∃ r ∈ l, r.b = b
def famF (l : List RowD) (w : World) : Prop := (l.map RowD.b).Nodup ∧ ∀ r ∈ l, r.ok w
def famE (l : List RowD) : Ent := .fam (famB l) (famF l)
theorem famF.imm {l : List RowD} {w : World} (h : famF l w) : Imm (famB l) w (famF l) :=
  ⟨h, fun _ hw => ⟨h.1, fun r hr => (h.2 r hr).move (hw r.b ⟨r, hr, rfl⟩)⟩⟩
theorem rowF_lt {T : TypeId} {sz n : Nat} {xs : List Value} {b cap : Nat} {w : World} (h : RowF T sz n xs b cap w) : b < w.heap.size := by
  obtain ⟨arr, fr, ⟨h1, _⟩, _⟩ := h
  exact (Array.getElem?_eq_some_iff.1 h1).1
theorem famE_ok {ρ : List Loc} {S : Nat → Prop} {w : World} {i : Nat} {l : List RowD} (h : famF l w) : EntOk ρ S w i (famE l) :=
  ⟨h.imm, fun _ ⟨r, hr, hb⟩ => hb ▸ rowF_lt (h.2 r hr)⟩
theorem famF_nil (w : World) : famF [] w := ⟨List.nodup_nil, fun r h => by cases h⟩
/-- What is known is said in another way: the world stays, and what nobody writes. -/
def TurnE (H G : List Ent) : Prop := G.length = H.length ∧ ∀ (ρ : List Loc) (S : Nat → Prop) (w : World), Sat ρ S H w → Sat ρ S G w ∧ Ev ρ S H w ρ S G w
theorem TurnE.s {H G : List Ent} (h : TurnE H G) : TurnS H G := ⟨h.1, fun ρ S w hs => ⟨S, h.2 ρ S w hs⟩⟩
theorem TurnE.refl (H : List Ent) : TurnE H H := ⟨rfl, fun _ _ _ hs => ⟨hs, Ev.refl _ _ _ _⟩⟩
theorem TurnE.trans {H G J : List Ent} (h : TurnE H G) (k : TurnE G J) : TurnE H J :=
  ⟨k.1.trans h.1, fun ρ S w hs => by
    obtain ⟨h1, e1⟩ := h.2 ρ S w hs
    obtain ⟨h2, e2⟩ := k.2 ρ S w h1
    exact ⟨h2, e1.trans e2⟩⟩
theorem TurnS.trans {H G J : List Ent} (h : TurnS H G) (k : TurnS G J) : TurnS H J :=
  ⟨k.1.trans h.1, fun ρ S w hs => by
    obtain ⟨S1, h1, e1⟩ := h.2 ρ S w hs
    obtain ⟨S2, h2, e2⟩ := k.2 ρ S1 w h1
    exact ⟨S2, h2, e1.trans e2⟩⟩
/-- Two entries get two others' places; their blocks together are the same. -/
theorem Sat.two {ρ : List Loc} {S : Nat → Prop} {H : List Ent} {w : World} (h : Sat ρ S H w) {i j : Nat} {e f e' f' : Ent} (hi : H[i]? = some e) (hj : H[j]? = some f) (hne : i ≠ j)
    (hb : ∀ b, entB ρ i e' b ∨ entB ρ j f' b → entB ρ i e b ∨ entB ρ j f b) (hx : ∀ b, entB ρ i e' b → ¬ entB ρ j f' b) (ke : EntOk ρ S w i e') (kf : EntOk ρ S w j f') :
    Sat ρ S ((H.set i e').set j f') w ∧ Ev ρ S H w ρ S ((H.set i e').set j f') w := by
  have hil := (List.getElem?_eq_some_iff.1 hi).1
  have hjl := (List.getElem?_eq_some_iff.1 hj).1
  have hcase : ∀ (k : Nat) (g : Ent), ((H.set i e').set j f')[k]? = some g → (k = i ∧ g = e') ∨ (k = j ∧ g = f') ∨ (k ≠ i ∧ k ≠ j ∧ H[k]? = some g) := fun k g hk => by
    by_cases h2 : k = j
    · subst h2
      rw [List.getElem?_set_self (by rw [List.length_set]; exact hjl)] at hk
      exact .inr (.inl ⟨rfl, (Option.some.inj hk).symm⟩)
    · rw [List.getElem?_set_ne (fun e => h2 e.symm)] at hk
      by_cases h1 : k = i
      · subst h1
        rw [List.getElem?_set_self hil] at hk
        exact .inl ⟨rfl, (Option.some.inj hk).symm⟩
      · rw [List.getElem?_set_ne (fun e => h1 e.symm)] at hk
        exact .inr (.inr ⟨h1, h2, hk⟩)
  have hown : ∀ (k : Nat) (g : Ent) (b : Nat), ((H.set i e').set j f')[k]? = some g → entB ρ k g b → (k = i ∨ k = j) ∧ (entB ρ i e b ∨ entB ρ j f b) ∨ (k ≠ i ∧ k ≠ j ∧ H[k]? = some g) := fun k g b hk hg => by
    rcases hcase k g hk with ⟨rfl, rfl⟩ | ⟨rfl, rfl⟩ | h3
    · exact .inl ⟨.inl rfl, hb b (.inl hg)⟩
    · exact .inl ⟨.inr rfl, hb b (.inr hg)⟩
    · exact .inr h3
  have hno : ∀ (k : Nat) (g : Ent) (b : Nat), k ≠ i → k ≠ j → H[k]? = some g → entB ρ k g b → ¬ (entB ρ i e b ∨ entB ρ j f b) := fun k g b h1 h2 hk hg hh => by
    rcases hh with hh | hh
    · exact h1 (h.inj k i g e b hk hi hg hh)
    · exact h2 (h.inj k j g f b hk hj hg hh)
  have hmb : ∀ b, mb ρ ((H.set i e').set j f') b → mb ρ H b := fun b ⟨k, g, hk, hg⟩ => by
    rcases hown k g b hk hg with ⟨_, h1 | h1⟩ | ⟨_, _, h1⟩
    · exact ⟨i, e, hi, h1⟩
    · exact ⟨j, f, hj, h1⟩
    · exact ⟨k, g, h1, hg⟩
  refine ⟨⟨by rw [List.length_set, List.length_set]; exact h.len, fun k g hk => ?_, fun k l g g2 b hk hl hg hg2 => ?_, fun b hb => h.out b (hmb b hb), h.low⟩, ⟨⟨[], by simp⟩, rfl, rfl, rfl, Nat.le_refl _, fun _ _ _ => rfl, fun _ h => .inl h, fun b hb => .inl (hmb b hb)⟩⟩
  · rcases hcase k g hk with ⟨rfl, rfl⟩ | ⟨rfl, rfl⟩ | ⟨_, _, h3⟩
    · exact ke
    · exact kf
    · exact h.ent k g h3
  · rcases hcase k g hk with ⟨rfl, rfl⟩ | ⟨rfl, rfl⟩ | ⟨k1, k2, h3⟩ <;> rcases hcase l g2 hl with ⟨rfl, rfl⟩ | ⟨rfl, rfl⟩ | ⟨l1, l2, h4⟩
    · rfl
    · exact absurd hg2 (hx b hg)
    · exact absurd (hb b (.inl hg)) (hno l g2 b l1 l2 h4 hg2)
    · exact absurd hg (hx b hg2)
    · rfl
    · exact absurd (hb b (.inr hg)) (hno l g2 b l1 l2 h4 hg2)
    · exact absurd (hb b (.inl hg2)) (hno k g b k1 k2 h3 hg)
    · exact absurd (hb b (.inr hg2)) (hno k g b k1 k2 h3 hg)
    · exact h.inj k l g g2 b h3 h4 hg hg2
/-- A row is put into a family. -/
theorem famPut {H : List Ent} (i j : Nat) {l l' : List RowD} {T : TypeId} {sz n b cap : Nat} {xs : List Value} (hi : nthE H i = some (famE l)) (hj : nthE H j = some (.app T sz xs (some ⟨b, 0, none⟩) n cap)) (hne : Nat.beq i j = false) (hp : (⟨T, sz, n, xs, b, cap⟩ :: l).Perm l') : TurnE H ((H.set i (famE l')).set j .dead) := by
  rw [nthE_eq] at hi hj
  refine ⟨by rw [List.length_set, List.length_set], fun ρ S w hs => ?_⟩
  have hF : famF l w := (hs.ent i _ hi).1.1
  have hij := Nat.ne_of_beq_eq_false hne
  rcases hs.ent j _ hj with ⟨h0, _⟩ | ⟨b', hb', hrow⟩
  · cases h0
  cases hb'
  have hnb : b ∉ l.map RowD.b := fun hm => by
    obtain ⟨r, hr, hrb⟩ := List.mem_map.1 hm
    exact hij (hs.inj i j _ _ b hi hj ⟨r, hr, hrb⟩ rfl)
  have hF' : famF l' w := ⟨(hp.map RowD.b).nodup_iff.1 (List.nodup_cons.2 ⟨hnb, hF.1⟩), fun q hq => by
    rcases List.mem_cons.1 (hp.mem_iff.2 hq) with rfl | hq
    · exact hrow
    · exact hF.2 q hq⟩
  refine hs.two hi hj hij (fun c hc => ?_) (fun _ _ hb => hb) (famE_ok hF') trivial
  rcases hc with ⟨q, hq, hqb⟩ | hc
  · rcases List.mem_cons.1 (hp.mem_iff.2 hq) with rfl | hq
    · exact .inr (congrArg some hqb)
    · exact .inl ⟨q, hq, hqb⟩
  · exact hc.elim
/-- A family of no rows. -/
theorem famNew {H : List Ent} (i : Nat) (hi : nthE H i = some .dead) : TurnE H (H.set i (famE [])) := by
  rw [nthE_eq] at hi
  refine ⟨by rw [List.length_set], fun ρ S w hs => ?_⟩
  have hget : ∀ (j : Nat) (f : Ent), (H.set i (famE []))[j]? = some f → f = famE [] ∨ H[j]? = some f := fun j f hf => by
    by_cases hj : i = j
    · subst hj
      rw [List.getElem?_set_self (List.getElem?_eq_some_iff.1 hi).1] at hf
      exact .inl (Option.some.inj hf).symm
    · rw [List.getElem?_set_ne hj] at hf
      exact .inr hf
  have hb : ∀ (j : Nat) (f : Ent) (b : Nat), (H.set i (famE []))[j]? = some f → entB ρ j f b → H[j]? = some f := fun j f b hf hfb => by
    rcases hget j f hf with rfl | h1
    · obtain ⟨r, hr, _⟩ := hfb; cases hr
    · exact h1
  have hmb : ∀ b, mb ρ (H.set i (famE [])) b → mb ρ H b := fun b ⟨j, f, hf, hfb⟩ => ⟨j, f, hb j f b hf hfb, hfb⟩
  exact ⟨⟨by simp [hs.len], fun j f hf => by
      rcases hget j f hf with rfl | h1
      · exact famE_ok (famF_nil w)
      · exact hs.ent j f h1,
    fun j k f g b hf hg hfb hgb => hs.inj j k f g b (hb j f b hf hfb) (hb k g b hg hgb) hfb hgb, fun b hbb => hs.out b (hmb b hbb), hs.low⟩,
    ⟨⟨[], by simp⟩, rfl, rfl, rfl, Nat.le_refl _, fun _ _ _ => rfl, fun _ h => .inl h, fun b hbb => .inl (hmb b hbb)⟩⟩

/-- What is known said in another way, ahead of a store (or another operation that writes). -/
theorem EffW.turn {P : Program} {o : Oper} {s : List AV} {H : List Ent} {K : AV → List Ent → Prop} (pad : List Ent) (hp : padB pad = true) {G : List Ent} (ht : TurnE (H ++ pad) G) (h : EffW P o s G K) : EffW P o s H K := by
  intro ρ S w a hs hr
  obtain ⟨t, hs1, hev1⟩ := hs.pad pad hp
  obtain ⟨hs2, hev2⟩ := ht.2 _ _ _ hs1
  obtain ⟨av, H', hK, r, v, ρ', w', e1, e2, e3, e4, e5⟩ := h (ρ ++ t) S w a hs2 (RelS_pre t hr)
  exact ⟨av, H', hK, r, v, ρ', w', e1, e2, e3, (hev1.trans hev2).trans e4, e5⟩
/-- .. ahead of a call. -/
theorem SpecH.turnS {P : Program} {f : FuncId} {args : List AV} {H : List Ent} {K : Out → List Ent → Prop} {G : List Ent} (t : TurnS H G) (h : SpecH P f args G K) : SpecH P f args H K := by
  refine ⟨h.ok, fun ρ S w vs hs hr => ?_⟩
  obtain ⟨S', hs', hev⟩ := t.2 ρ S w hs
  exact (h.run ρ S' w vs hs' hr).mono fun e w' ⟨ρ2, S2, H2, out, a1, a2, a3, a4⟩ => ⟨ρ2, S2, H2, out, a1, hev.trans a2, a3, a4⟩

/-- Entries that hang on no places and no facts. -/
def Ent.bare : Ent → Bool
  | .app .. => true
  | .mp .. => true
  | .fam .. => true
  | .dead => true
  | _ => false
theorem EntOk.bare {ρ ρ' : List Loc} {S S' : Nat → Prop} {w : World} {i j : Nat} {e : Ent} (he : e.bare = true) (h : EntOk ρ S w i e) : EntOk ρ' S' w j e := by
  cases e <;> first | (cases he; done) | exact h
theorem entB_bare {ρ ρ' : List Loc} {i j b : Nat} {e : Ent} (he : e.bare = true) (h : entB ρ i e b) : entB ρ' j e b := by
  cases e <;> first | (cases he; done) | exact h
def appsK : List Ent → List Ent → (List Ent → Prop) → Prop
  | H, [], K => K H
  | H, e :: N, K => snocK H e 0 fun H' _ => appsK H' N K
theorem appsK_eq : ∀ (N H : List Ent) (K : List Ent → Prop), appsK H N K = K (H ++ N)
  | [], H, K => by simp [appsK]
  | e :: N, H, K => by
    unfold appsK
    rw [snocK_eq, appsK_eq N]
    simp
/-- A call that sees facts and hands back entries of its own. -/
theorem factG {P : Program} {f : FuncId} {xs : List Value} {F : World → Prop} {ι : Type} {inv : ι → Prop} {val : ι → Value} {N : ι → List Ent} (hN : ∀ i, (N i).all Ent.bare = true)
    (h : SpecH P f (pvs xs) [.fact F] (RetG inv val fun i => .dead :: N i)) {H : List Ent} (hF : ∀ w, Facts H w → F w) {K : Out → List Ent → Prop} (hk : ∀ i, inv i → appsK H (N i) fun G => K (.val (.c (.v (val i)))) G) : SpecH P f (pvs xs) H K := by
  refine ⟨h.ok, fun ρ S w vs hs hr => ?_⟩
  have h0 : Sat [⟨0, 0⟩] (fun b => S b ∨ appB H b) [.fact F] w := by
    refine ⟨rfl, fun i e he => ?_, fun i j e f b he hf heo => ?_, fun b hb => ?_, fun b hb => ?_⟩
    · match i, he with
      | 0, he => simp at he; subst he; exact hs.imm.mono hF
    · match i, he with
      | 0, he => simp at he; subst he; exact heo.elim
    · obtain ⟨i, e, he, ho⟩ := hb
      match i, he with
      | 0, he => simp at he; subst he; exact ho.elim
    · rcases hb with hb | hb
      · exact hs.low b hb
      · obtain ⟨i, e, he, heb⟩ := appB_mb (ρ := ρ) hb
        exact hs.blk_lt he heb
  have nomb : ∀ b, ¬ mb [⟨0, 0⟩] [Ent.fact F] b := by
    rintro b ⟨i, e, he, ho⟩
    match i, he with
    | 0, he => simp at he; subst he; exact ho.elim
  obtain rfl := RelS_pvs hr
  refine (h.run _ _ w vs h0 (pvs_rel _ vs)).mono fun e w' ⟨ρ', S', H', out, hs', hev, hout, i, hi, ho, hH⟩ => ?_
  subst ho
  subst hH
  have hk := hk i hi
  rw [appsK_eq] at hk
  have hnew : ∀ (k : Nat) (g : Ent) (b : Nat), (N i)[k]? = some g → entB ρ' (k + 1) g b → w.heap.size ≤ b := fun k g b hg hb => (hev.own b ⟨k + 1, g, by simpa using hg, hb⟩).resolve_left (nomb b)
  have hbr : ∀ (k : Nat) (g : Ent), (N i)[k]? = some g → g.bare = true := fun k g hg => List.all_eq_true.1 (hN i) g (List.mem_of_getElem? hg)
  have hbel : ∀ b, b < w.heap.size → w'.heap[b]? = w.heap[b]? := fun b hb => hev.keep b hb (nomb b)
  have hcase : ∀ (k : Nat) (g : Ent), (H ++ N i)[k]? = some g → (k < H.length ∧ H[k]? = some g) ∨ (H.length ≤ k ∧ (N i)[k - H.length]? = some g) := fun k g hg => by
    by_cases hk : k < H.length
    · rw [List.getElem?_append_left hk] at hg; exact .inl ⟨hk, hg⟩
    · rw [List.getElem?_append_right (by omega)] at hg
      exact .inr ⟨by omega, hg⟩
  have hown : ∀ (k : Nat) (g : Ent) (b : Nat), (H ++ N i)[k]? = some g → entB (ρ ++ List.replicate (N i).length ⟨0, 0⟩) k g b → (k < H.length ∧ H[k]? = some g ∧ entB ρ k g b ∧ b < w.heap.size) ∨ (H.length ≤ k ∧ (N i)[k - H.length]? = some g ∧ entB ρ' (k - H.length + 1) g b ∧ w.heap.size ≤ b) := fun k g b hg hb => by
    rcases hcase k g hg with ⟨h1, h2⟩ | ⟨h1, h2⟩
    · rw [entB_pre _ (by rw [hs.len]; exact h1)] at hb
      exact .inl ⟨h1, h2, hb, hs.blk_lt h2 hb⟩
    · have h3 : entB ρ' (k - H.length + 1) g b := entB_bare (hbr _ g h2) hb
      exact .inr ⟨h1, h2, h3, hnew _ g b h2 h3⟩
  have hmb : ∀ b, mb (ρ ++ List.replicate (N i).length ⟨0, 0⟩) (H ++ N i) b → mb ρ H b ∨ w.heap.size ≤ b := fun b ⟨k, g, hg, hb⟩ => by
    rcases hown k g b hg hb with ⟨_, h2, h3, _⟩ | ⟨_, _, _, h4⟩
    · exact .inl ⟨k, g, h2, h3⟩
    · exact .inr h4
  refine ⟨ρ ++ List.replicate (N i).length ⟨0, 0⟩, S, H ++ N i, .val (.c (.v (val i))), ⟨by simp [hs.len], fun k g hg => ?_, fun k l g g2 b hg hg2 hb hb2 => ?_, fun b hb hS => ?_, fun b hb => Nat.lt_of_lt_of_le (hs.low b hb) hev.size⟩, ⟨⟨_, rfl⟩, hev.os, hev.tape, hev.output, hev.size, fun b hb _ => hbel b hb, fun b hb => .inl hb, hmb⟩, hout, hk⟩
  · rcases hcase k g hg with ⟨h1, h2⟩ | ⟨h1, h2⟩
    · exact (hs.ent k g h2).move _ (fun b hb => hbel b (hs.blk_lt h2 hb)) fun b hb => hbel b (hs.low b hb)
    · exact EntOk.bare (hbr _ g h2) (hs'.ent (k - H.length + 1) g (by simpa using h2))
  · rcases hown k g b hg hb with ⟨_, h2, h3, h4⟩ | ⟨h1, h2, h3, h4⟩ <;> rcases hown l g2 b hg2 hb2 with ⟨_, k2, k3, k4⟩ | ⟨k1, k2, k3, k4⟩
    · exact hs.inj k l g g2 b h2 k2 h3 k3
    · omega
    · omega
    · have := hs'.inj (k - H.length + 1) (l - H.length + 1) g g2 b (by simpa using h2) (by simpa using k2) h3 k3
      omega
  · rcases hmb b hb with h1 | h1
    · exact hs.out b h1 hS
    · have := hs.low b hS; omega
end Go.AX

/-
  Contracts: a graph for the specification, and back (law), with memory that the caller may write.
-/
namespace Go.Proofs.YtahjbnfbilkbcaaGreatDoor
open Go.AX Go.RowKit Go.Core
set_option maxRecDepth 20000

/-- The rows of a cell. -/
def rowsP (p : CellP) : List RowD :=
  (match p.na with | some ad => [⟨9, 1, p.c.names.length, strC p.c.names, ad.block, p.nc⟩] | none => []) ++ (match p.ia with | some ad => [⟨3, 1, p.c.items.length, iC p.c.items, ad.block, p.ic⟩] | none => [])
def rowsG (m : List CellP) : List RowD := m.flatMap rowsP
theorem rowsG_snoc (m : List CellP) (p : CellP) : rowsG (m ++ [p]) = rowsG m ++ rowsP p := by unfold rowsG; rw [List.flatMap_append]; simp
/-- A cell's rows begin where their blocks do. -/
structure OwnP (p : CellP) : Prop where
  na : ∀ ad, p.na = some ad → ad = ⟨ad.block, 0, none⟩
  ia : ∀ ad, p.ia = some ad → ad = ⟨ad.block, 0, none⟩
theorem rowF_sl {T : TypeId} {sz n : Nat} {xs : List Value} {b cap : Nat} {w : World} (h : RowF T sz n xs b cap w) : SlAt (some ⟨b, 0, none⟩) (n * sz) xs w := h.sl
theorem cellF_rows {p : CellP} (ho : CellOk p) (hw : OwnP p) {w : World} (h : ∀ r ∈ rowsP p, r.ok w) : CellF p w := by
  refine ⟨?_, ?_⟩
  · cases hn : p.na with
    | none => rw [ho.na hn]; exact SlAt.nil
    | some ad =>
      rw [hw.na ad hn]
      exact rowF_sl (h ⟨9, 1, p.c.names.length, strC p.c.names, ad.block, p.nc⟩ (by unfold rowsP; rw [hn]; simp))
  · cases hn : p.ia with
    | none => rw [ho.ia hn]; exact SlAt.nil
    | some ad =>
      rw [hw.ia ad hn]
      exact rowF_sl (h ⟨3, 1, p.c.items.length, iC p.c.items, ad.block, p.ic⟩ (by unfold rowsP; rw [hn]; simp))
theorem grF_rows {m : List CellP} (ho : ∀ p ∈ m, CellOk p) (hw : ∀ p ∈ m, OwnP p) {w : World} (h : famF (rowsG m) w) : ∀ p ∈ m, CellF p w := fun p hp =>
  cellF_rows (ho p hp) (hw p hp) fun r hr => h.2 r (List.mem_flatMap.2 ⟨p, hp, hr⟩)
/-- What the entries of such a graph are. -/
def ownN (T : TypeId) (st : DSt) : List Ent := [.app T 5 (grC st.m) st.oa st.m.length st.oc, famE (rowsG st.m)]
/-- What is known of such a graph. -/
structure OInv (l : List CellP) (st : DSt) : Prop where
  oa : st.oa = none → st.m = []
  c : st.m.map (·.c) = l.map (·.c)
  ok : ∀ p ∈ st.m, CellOk p
  own : ∀ p ∈ st.m, OwnP p
  cap : st.m.length ≤ st.oc
theorem OInv.gr {l : List CellP} {st : DSt} (h : OInv l st) {w : World} (h1 : SlAt st.oa (st.m.length * 5) (grC st.m) w) (h2 : famF (rowsG st.m) w) : GrF st.oa st.m w := ⟨h1, grF_rows h.ok h.own h2⟩
-- cabochon/cabochonlaw21.as: the function's name, core.Cell: the type of what is read, cabochonref21.Cell: of what is made, as_o: the theorem
set_option maxHeartbeats 4000000 in
theorem as_o (a : Option Addr) (ca : Nat) (l : List CellP) (ha : a = none → l = []) (hs : Small l) (hok : ∀ p ∈ l, CellOk p) : SpecH Tryz.prog 16 (pvs [.slice a l.length ca]) [.fact (GrF a l)] (RetG (OInv l) (fun st => .slice st.oa st.m.length st.oc) (fun st => .dead :: ownN 73 st)) := by
  obtain ⟨hl, hsm⟩ := hs
  refine ownC hm Tryz.func16 (by kernel_rfl) rfl rfl (fun _ _ => okHB_eq rfl) (fun _ _ => by show 1 ≤ 3; decide) ?_
  (first | refine wX ?_ | exact wZ)
  refine LoopN.introS DSt (fun st => DInv l st ∧ ∀ p ∈ st.m, OwnP p) (fun ⟨i, oa, oc, m⟩ => mkS 35 0 [(0, .c (.v (.slice a l.length ca))), (3, .c (.v (.slice oa m.length oc))), (4, .c (.v (.int .i64 (i : Int))))]) (fun ⟨i, oa, oc, m⟩ => [.fact (GrF a l), .app 73 5 (grC m) oa m.length oc, famE (rowsG m)]) (fun ⟨i, _, _, _⟩ => l.length - i) [.app 73 5 [] none 0 0, .dead] rfl (fun _ => rfl) (fun _ => rfl) (fun _ _ => ⟨trivial, trivial, trivial, trivial⟩) ?_ ?_
  · refine ⟨⟨0, none, 0, []⟩, ⟨⟨Nat.zero_le _, rfl, (fun p h => by cases h), (fun _ => rfl), Nat.le_refl _⟩, fun p h => by cases h⟩, ?_, _, (famNew 2 rfl).s, ?_⟩
    · (repeat' (first | exact trivial | refine And.intro (by with_reducible rfl) ?_ | (with_reducible exact wkC_refl _) | (with_reducible exact wkCs_refl _) | refine And.intro ?_ ?_))
      all_goals rfl
    · exact ⟨wkE_refl _, wkE_refl _, wkE_refl _, trivial⟩
  rintro ⟨i, oa, oc, m⟩ ⟨hinv, hom⟩
  have hml := hinv.len
  obtain ⟨hi, hmc, hmo, hoa, hoc⟩ := hinv
  (first | refine wX ?_ | exact wZ)
  refine brd_dec (fun h1 => ?_) (fun h1 => ?_)
  · obtain ⟨p, hp⟩ : ∃ p, l[i]? = some p := ⟨_, List.getElem?_eq_getElem (by omega)⟩
    have hpm := List.mem_of_getElem? hp
    have hpo := hok p hpm
    obtain ⟨hnl, hil⟩ := hsm p hpm
    have hsa : a.isSome = true := by
      cases a with
      | none => rw [ha rfl] at hp; cases hp
      | some b => rfl
    (first | refine wX ?_ | exact wZ)
    refine Nd.mk ⟨hsa, by omega, by omega⟩ ?_
    (first | refine wX ?_ | exact wZ)
    refine LdN.agg (cellC p) rfl (fun w hw => hw.1.1) rfl (fun k hk => by rw [Int.toNat_natCast]; exact grC_get l i k hk hp) ?_
    (first | refine wXB ?_ | exact wZB)
    refine BoxN.known [.int .i64 0, .int .i64 0, .string { data := #[] }, .slice none 0 0, .slice none 0 0] rfl fun cb => ?_
    (first | refine wXB ?_ | exact wZB)
    refine EffW.appTo (i := 3) (q := 0) (ys := cellC p) (cellC p) 5 rfl rfl rfl rfl rfl rfl rfl (Nat.le_of_ble_eq_true rfl) rfl rfl ?_
    (first | refine wXB ?_ | exact wZB)
    refine DrawN.planK hm (fun w => SlAt (some ⟨cb, 0, none⟩) 5 (cellC p) w) [7, 11] [0, 1, 3, 5, 8, 12] [(9, 1), (2, 1), (4, 1), (6, 1), (13, 1), (7, 2), (10, 0), (11, 2), (14, 0), (15, 0), (16, 0), (17, 0), (18, 0)] (by decide +kernel) (fun w hw => hw.2.2.2.1) ?_
    -- fun w hw => hw.2.2.2.1: why the kind holds
    ((conv => whnf); (repeat ((first | refine Nd.mk (fun w hw => hw.2.2.2.1) ?_ | refine VrN.norm (wrap_i64 (by omega)) ?_ | refine VrN.keep ?_ | refine Nd.mk (by decide +kernel) ?_ | refine Nd.mk (by omega) ?_ | refine RdN.intro _ rfl (by rfl) ?_); (conv => whnf))))
    refine ReadC.one (a := some ⟨cb, 0, none⟩) (q := 3) (.slice p.na p.c.names.length p.nc) rfl rfl rfl (fun w hw => hw) rfl ?_
    -- fun w hw => hw.2.2.2.1: why the kind holds
    ((conv => whnf); (repeat ((first | refine Nd.mk (fun w hw => hw.2.2.2.1) ?_ | refine VrN.norm (wrap_i64 (by omega)) ?_ | refine VrN.keep ?_ | refine Nd.mk (by decide +kernel) ?_ | refine Nd.mk (by omega) ?_ | refine RdN.intro _ rfl (by rfl) ?_); (conv => whnf))))
    -- 0: the field of the cell, .int .i64 p.c.kind: the value
    refine ReadC.one (a := some ⟨cb, 0, none⟩) (q := 0) (.int .i64 p.c.kind) rfl rfl rfl (fun w hw => hw) rfl ?_
    -- fun w hw => hw.2.2.2.1: why the kind holds
    ((conv => whnf); (repeat ((first | refine Nd.mk (fun w hw => hw.2.2.2.1) ?_ | refine VrN.norm (wrap_i64 (by omega)) ?_ | refine VrN.keep ?_ | refine Nd.mk (by decide +kernel) ?_ | refine Nd.mk (by omega) ?_ | refine RdN.intro _ rfl (by rfl) ?_); (conv => whnf))))
    -- 1: the field of the cell, .int .i64 p.c.num: the value
    refine ReadC.one (a := some ⟨cb, 0, none⟩) (q := 1) (.int .i64 p.c.num) rfl rfl rfl (fun w hw => hw) rfl ?_
    -- fun w hw => hw.2.2.2.1: why the kind holds
    ((conv => whnf); (repeat ((first | refine Nd.mk (fun w hw => hw.2.2.2.1) ?_ | refine VrN.norm (wrap_i64 (by omega)) ?_ | refine VrN.keep ?_ | refine Nd.mk (by decide +kernel) ?_ | refine Nd.mk (by omega) ?_ | refine RdN.intro _ rfl (by rfl) ?_); (conv => whnf))))
    -- 2: the field of the cell, .string (bs p.c.text): the value
    refine ReadC.one (a := some ⟨cb, 0, none⟩) (q := 2) (.string (bs p.c.text)) rfl rfl rfl (fun w hw => hw) rfl ?_
    -- fun w hw => hw.2.2.2.1: why the kind holds
    ((conv => whnf); (repeat ((first | refine Nd.mk (fun w hw => hw.2.2.2.1) ?_ | refine VrN.norm (wrap_i64 (by omega)) ?_ | refine VrN.keep ?_ | refine Nd.mk (by decide +kernel) ?_ | refine Nd.mk (by omega) ?_ | refine RdN.intro _ rfl (by rfl) ?_); (conv => whnf))))
    -- 4: the field of the cell, .slice p.ia p.c.items.length p.ic: the value
    refine ReadC.one (a := some ⟨cb, 0, none⟩) (q := 4) (.slice p.ia p.c.items.length p.ic) rfl rfl rfl (fun w hw => hw) rfl ?_
    -- fun w hw => hw.2.2.2.1: why the kind holds
    ((conv => whnf); (repeat ((first | refine Nd.mk (fun w hw => hw.2.2.2.1) ?_ | refine VrN.norm (wrap_i64 (by omega)) ?_ | refine VrN.keep ?_ | refine Nd.mk (by decide +kernel) ?_ | refine Nd.mk (by omega) ?_ | refine RdN.intro _ rfl (by rfl) ?_); (conv => whnf))))
    intro nb
    -- fun w hw => hw.2.2.2.1: why the kind holds
    ((conv => whnf); (repeat ((first | refine Nd.mk (fun w hw => hw.2.2.2.1) ?_ | refine VrN.norm (wrap_i64 (by omega)) ?_ | refine VrN.keep ?_ | refine Nd.mk (by decide +kernel) ?_ | refine Nd.mk (by omega) ?_ | refine RdN.intro _ rfl (by rfl) ?_); (conv => whnf))))
    refine app_any 4 [] (strC p.c.names) rfl (Nat.le_refl _) (fun h => by cases hq : p.na with | none => rw [hpo.na hq] at h; cases h | some b => rfl) (by show (strC p.c.names).length = p.c.names.length * 1; simp [strC]) (fun u hu => by obtain ⟨x, _, rfl⟩ := List.mem_map.1 hu; rfl) (fun w hw j v hv => (hw.1.2 p hpm).1.cell hv) ⟨⟨by show (0 + p.c.names.length) * 16 ≤ _; omega, by omega⟩, Nat.one_ne_zero⟩ fun nb2 nc2 hnc2 => ?_
    rw [Nat.zero_add, List.nil_append]
    -- fun w hw => hw.2.2.2.1: why the kind holds
    ((conv => whnf); (repeat ((first | refine Nd.mk (fun w hw => hw.2.2.2.1) ?_ | refine VrN.norm (wrap_i64 (by omega)) ?_ | refine VrN.keep ?_ | refine Nd.mk (by decide +kernel) ?_ | refine Nd.mk (by omega) ?_ | refine RdN.intro _ rfl (by rfl) ?_); (conv => whnf))))
    intro ib
    -- fun w hw => hw.2.2.2.1: why the kind holds
    ((conv => whnf); (repeat ((first | refine Nd.mk (fun w hw => hw.2.2.2.1) ?_ | refine VrN.norm (wrap_i64 (by omega)) ?_ | refine VrN.keep ?_ | refine Nd.mk (by decide +kernel) ?_ | refine Nd.mk (by omega) ?_ | refine RdN.intro _ rfl (by rfl) ?_); (conv => whnf))))
    refine app_any 5 [] (iC p.c.items) rfl (Nat.le_refl _) (fun h => by cases hq : p.ia with | none => rw [hpo.ia hq] at h; cases h | some b => rfl) (by show (iC p.c.items).length = p.c.items.length * 1; simp [iC]) (fun u hu => by obtain ⟨x, _, rfl⟩ := List.mem_map.1 hu; rfl) (fun w hw j v hv => (hw.1.2 p hpm).2.cell hv) ⟨⟨by show (0 + p.c.items.length) * 8 ≤ _; omega, by omega⟩, Nat.one_ne_zero⟩ fun ib2 ic2 hic2 => ?_
    rw [Nat.zero_add, List.nil_append]
    -- fun w hw => hw.2.2.2.1: why the kind holds
    ((conv => whnf); (repeat ((first | refine Nd.mk (fun w hw => hw.2.2.2.1) ?_ | refine VrN.norm (wrap_i64 (by omega)) ?_ | refine VrN.keep ?_ | refine Nd.mk (by decide +kernel) ?_ | refine Nd.mk (by omega) ?_ | refine RdN.intro _ rfl (by rfl) ?_); (conv => whnf))))
    refine RwN.own ?_
    -- fun w hw => hw.2.2.2.1: why the kind holds
    ((conv => whnf); (repeat ((first | refine Nd.mk (fun w hw => hw.2.2.2.1) ?_ | refine VrN.norm (wrap_i64 (by omega)) ?_ | refine VrN.keep ?_ | refine Nd.mk (by decide +kernel) ?_ | refine Nd.mk (by omega) ?_ | refine RdN.intro _ rfl (by rfl) ?_); (conv => whnf))))
    refine Nd.mk ⟨Nat.le_refl 1, rfl, rfl⟩ ?_
    (conv => whnf)
    refine AppN.grow 1 (grC m) (cellC ⟨p.c, some ⟨nb2, 0, none⟩, nc2, some ⟨ib2, 0, none⟩, ic2⟩) rfl rfl ⟨Nat.le_refl 1, ⟨by show (m.length + 1) * 80 ≤ _; omega, by omega⟩, by decide⟩ fun ob2 oc2 hoc2 _ => ?_
    -- fun w hw => hw.2.2.2.1: why the kind holds
    ((conv => whnf); (repeat ((first | refine Nd.mk (fun w hw => hw.2.2.2.1) ?_ | refine VrN.norm (wrap_i64 (by omega)) ?_ | refine VrN.keep ?_ | refine Nd.mk (by decide +kernel) ?_ | refine Nd.mk (by omega) ?_ | refine RdN.intro _ rfl (by rfl) ?_); (conv => whnf))))
    have hm2 : m.length + 1 = (m ++ [(⟨p.c, some ⟨nb2, 0, none⟩, nc2, some ⟨ib2, 0, none⟩, ic2⟩ : CellP)]).length := by simp
    have hg2 := grC_snoc m ⟨p.c, some ⟨nb2, 0, none⟩, nc2, some ⟨ib2, 0, none⟩, ic2⟩
    have hrw := rowsG_snoc m ⟨p.c, some ⟨nb2, 0, none⟩, nc2, some ⟨ib2, 0, none⟩, ic2⟩
    refine ⟨⟨i + 1, some ⟨ob2, 0, none⟩, oc2, m ++ [⟨p.c, some ⟨nb2, 0, none⟩, nc2, some ⟨ib2, 0, none⟩, ic2⟩]⟩, ⟨⟨by omega, ?_, ?_, (fun h => by cases h), by omega⟩, ?_⟩, by show l.length - (i + 1) < l.length - i; omega, ?_, _, ((famPut 2 4 rfl rfl rfl (List.perm_append_singleton _ _).symm).trans (famPut 2 5 rfl rfl rfl (List.perm_append_singleton _ _).symm)).s, ?_⟩
    · rw [List.take_add_one, hp, List.map_append, List.map_append, hmc]
      rfl
    · intro q hq
      rcases List.mem_append.1 hq with hq | hq
      · exact hmo q hq
      · rw [List.mem_singleton.1 hq]
        exact ⟨(fun h => by cases h), (fun h => by cases h), hpo.nl, hpo.il, hpo.nw, hpo.tl, by show p.c.names.length ≤ nc2; omega, by show p.c.items.length ≤ ic2; omega⟩
    · intro q hq
      rcases List.mem_append.1 hq with hq | hq
      · exact hom q hq
      · rw [List.mem_singleton.1 hq]
        exact ⟨fun ad h => by cases h; rfl, fun ad h => by cases h; rfl⟩
    · (repeat' (first | exact trivial | refine And.intro (by with_reducible rfl) ?_ | (with_reducible exact wkC_refl _) | (with_reducible exact wkCs_refl _) | refine And.intro ?_ ?_))
      all_goals first | rfl | exact av_int (by omega) | (rw [hm2])
    · show wkH _ [Ent.fact (GrF a l), .app 73 5 (grC (m ++ [_])) _ (m ++ [_]).length _, famE (rowsG (m ++ [_]))]
      rw [← hm2, hg2, hrw]
      refine ⟨wkE_refl _, wkE_refl _, ?_, trivial⟩
      rw [show rowsP (⟨p.c, some ⟨nb2, 0, none⟩, nc2, some ⟨ib2, 0, none⟩, ic2⟩ : CellP) = [⟨9, 1, p.c.names.length, strC p.c.names, nb2, nc2⟩] ++ [⟨3, 1, p.c.items.length, iC p.c.items, ib2, ic2⟩] from rfl, ← List.append_assoc]
      exact wkE_refl _
  · have hil : i = l.length := by omega
    subst hil
    rw [List.take_length] at hmc
    (first | refine wX ?_ | exact wZ)
    exact ⟨⟨l.length, oa, oc, m⟩, ⟨hoa, hmc, hmo, hom, hoc⟩, rfl, trivial, wkE_refl _, wkE_refl _, trivial⟩
-- cabochon/cabochonlaw21.back: the function's name, cabochonref21.Cell: the type of what is read, core.Cell: of what is made, back_o: the theorem
set_option maxHeartbeats 4000000 in
theorem back_o (a : Option Addr) (ca : Nat) (l : List CellP) (ha : a = none → l = []) (hs : Small l) (hok : ∀ p ∈ l, CellOk p) : SpecH Tryz.prog 25 (pvs [.slice a l.length ca]) [.fact (GrF a l)] (RetG (OInv l) (fun st => .slice st.oa st.m.length st.oc) (fun st => .dead :: ownN 42 st)) := by
  obtain ⟨hl, hsm⟩ := hs
  refine ownC hm Tryz.func25 (by kernel_rfl) rfl rfl (fun _ _ => okHB_eq rfl) (fun _ _ => by show 1 ≤ 3; decide) ?_
  (first | refine wX ?_ | exact wZ)
  refine LoopN.introS DSt (fun st => DInv l st ∧ ∀ p ∈ st.m, OwnP p) (fun ⟨i, oa, oc, m⟩ => mkS 35 0 [(0, .c (.v (.slice a l.length ca))), (3, .c (.v (.slice oa m.length oc))), (4, .c (.v (.int .i64 (i : Int))))]) (fun ⟨i, oa, oc, m⟩ => [.fact (GrF a l), .app 42 5 (grC m) oa m.length oc, famE (rowsG m)]) (fun ⟨i, _, _, _⟩ => l.length - i) [.app 42 5 [] none 0 0, .dead] rfl (fun _ => rfl) (fun _ => rfl) (fun _ _ => ⟨trivial, trivial, trivial, trivial⟩) ?_ ?_
  · refine ⟨⟨0, none, 0, []⟩, ⟨⟨Nat.zero_le _, rfl, (fun p h => by cases h), (fun _ => rfl), Nat.le_refl _⟩, fun p h => by cases h⟩, ?_, _, (famNew 2 rfl).s, ?_⟩
    · (repeat' (first | exact trivial | refine And.intro (by with_reducible rfl) ?_ | (with_reducible exact wkC_refl _) | (with_reducible exact wkCs_refl _) | refine And.intro ?_ ?_))
      all_goals rfl
    · exact ⟨wkE_refl _, wkE_refl _, wkE_refl _, trivial⟩
  rintro ⟨i, oa, oc, m⟩ ⟨hinv, hom⟩
  have hml := hinv.len
  obtain ⟨hi, hmc, hmo, hoa, hoc⟩ := hinv
  (first | refine wX ?_ | exact wZ)
  refine brd_dec (fun h1 => ?_) (fun h1 => ?_)
  · obtain ⟨p, hp⟩ : ∃ p, l[i]? = some p := ⟨_, List.getElem?_eq_getElem (by omega)⟩
    have hpm := List.mem_of_getElem? hp
    have hpo := hok p hpm
    obtain ⟨hnl, hil⟩ := hsm p hpm
    have hsa : a.isSome = true := by
      cases a with
      | none => rw [ha rfl] at hp; cases hp
      | some b => rfl
    (first | refine wX ?_ | exact wZ)
    refine Nd.mk ⟨hsa, by omega, by omega⟩ ?_
    (first | refine wX ?_ | exact wZ)
    refine LdN.agg (cellC p) rfl (fun w hw => hw.1.1) rfl (fun k hk => by rw [Int.toNat_natCast]; exact grC_get l i k hk hp) ?_
    (first | refine wXB ?_ | exact wZB)
    refine BoxN.known [.int .i64 0, .int .i64 0, .string { data := #[] }, .slice none 0 0, .slice none 0 0] rfl fun cb => ?_
    (first | refine wXB ?_ | exact wZB)
    refine EffW.appTo (i := 3) (q := 0) (ys := cellC p) (cellC p) 5 rfl rfl rfl rfl rfl rfl rfl (Nat.le_of_ble_eq_true rfl) rfl rfl ?_
    (first | refine wXB ?_ | exact wZB)
    refine DrawN.planK hm (fun w => SlAt (some ⟨cb, 0, none⟩) 5 (cellC p) w) [7, 11] [0, 1, 3, 5, 8, 12] [(9, 1), (2, 1), (4, 1), (6, 1), (13, 1), (7, 2), (10, 0), (11, 2), (14, 0), (15, 0), (16, 0), (17, 0), (18, 0)] (by decide +kernel) (fun w hw => hw.2.2.2.1) ?_
    -- fun w hw => hw.2.2.2.1: why the kind holds
    ((conv => whnf); (repeat ((first | refine Nd.mk (fun w hw => hw.2.2.2.1) ?_ | refine VrN.norm (wrap_i64 (by omega)) ?_ | refine VrN.keep ?_ | refine Nd.mk (by decide +kernel) ?_ | refine Nd.mk (by omega) ?_ | refine RdN.intro _ rfl (by rfl) ?_); (conv => whnf))))
    refine ReadC.one (a := some ⟨cb, 0, none⟩) (q := 3) (.slice p.na p.c.names.length p.nc) rfl rfl rfl (fun w hw => hw) rfl ?_
    -- fun w hw => hw.2.2.2.1: why the kind holds
    ((conv => whnf); (repeat ((first | refine Nd.mk (fun w hw => hw.2.2.2.1) ?_ | refine VrN.norm (wrap_i64 (by omega)) ?_ | refine VrN.keep ?_ | refine Nd.mk (by decide +kernel) ?_ | refine Nd.mk (by omega) ?_ | refine RdN.intro _ rfl (by rfl) ?_); (conv => whnf))))
    -- 0: the field of the cell, .int .i64 p.c.kind: the value
    refine ReadC.one (a := some ⟨cb, 0, none⟩) (q := 0) (.int .i64 p.c.kind) rfl rfl rfl (fun w hw => hw) rfl ?_
    -- fun w hw => hw.2.2.2.1: why the kind holds
    ((conv => whnf); (repeat ((first | refine Nd.mk (fun w hw => hw.2.2.2.1) ?_ | refine VrN.norm (wrap_i64 (by omega)) ?_ | refine VrN.keep ?_ | refine Nd.mk (by decide +kernel) ?_ | refine Nd.mk (by omega) ?_ | refine RdN.intro _ rfl (by rfl) ?_); (conv => whnf))))
    -- 1: the field of the cell, .int .i64 p.c.num: the value
    refine ReadC.one (a := some ⟨cb, 0, none⟩) (q := 1) (.int .i64 p.c.num) rfl rfl rfl (fun w hw => hw) rfl ?_
    -- fun w hw => hw.2.2.2.1: why the kind holds
    ((conv => whnf); (repeat ((first | refine Nd.mk (fun w hw => hw.2.2.2.1) ?_ | refine VrN.norm (wrap_i64 (by omega)) ?_ | refine VrN.keep ?_ | refine Nd.mk (by decide +kernel) ?_ | refine Nd.mk (by omega) ?_ | refine RdN.intro _ rfl (by rfl) ?_); (conv => whnf))))
    -- 2: the field of the cell, .string (bs p.c.text): the value
    refine ReadC.one (a := some ⟨cb, 0, none⟩) (q := 2) (.string (bs p.c.text)) rfl rfl rfl (fun w hw => hw) rfl ?_
    -- fun w hw => hw.2.2.2.1: why the kind holds
    ((conv => whnf); (repeat ((first | refine Nd.mk (fun w hw => hw.2.2.2.1) ?_ | refine VrN.norm (wrap_i64 (by omega)) ?_ | refine VrN.keep ?_ | refine Nd.mk (by decide +kernel) ?_ | refine Nd.mk (by omega) ?_ | refine RdN.intro _ rfl (by rfl) ?_); (conv => whnf))))
    -- 4: the field of the cell, .slice p.ia p.c.items.length p.ic: the value
    refine ReadC.one (a := some ⟨cb, 0, none⟩) (q := 4) (.slice p.ia p.c.items.length p.ic) rfl rfl rfl (fun w hw => hw) rfl ?_
    -- fun w hw => hw.2.2.2.1: why the kind holds
    ((conv => whnf); (repeat ((first | refine Nd.mk (fun w hw => hw.2.2.2.1) ?_ | refine VrN.norm (wrap_i64 (by omega)) ?_ | refine VrN.keep ?_ | refine Nd.mk (by decide +kernel) ?_ | refine Nd.mk (by omega) ?_ | refine RdN.intro _ rfl (by rfl) ?_); (conv => whnf))))
    intro nb
    -- fun w hw => hw.2.2.2.1: why the kind holds
    ((conv => whnf); (repeat ((first | refine Nd.mk (fun w hw => hw.2.2.2.1) ?_ | refine VrN.norm (wrap_i64 (by omega)) ?_ | refine VrN.keep ?_ | refine Nd.mk (by decide +kernel) ?_ | refine Nd.mk (by omega) ?_ | refine RdN.intro _ rfl (by rfl) ?_); (conv => whnf))))
    refine app_any 4 [] (strC p.c.names) rfl (Nat.le_refl _) (fun h => by cases hq : p.na with | none => rw [hpo.na hq] at h; cases h | some b => rfl) (by show (strC p.c.names).length = p.c.names.length * 1; simp [strC]) (fun u hu => by obtain ⟨x, _, rfl⟩ := List.mem_map.1 hu; rfl) (fun w hw j v hv => (hw.1.2 p hpm).1.cell hv) ⟨⟨by show (0 + p.c.names.length) * 16 ≤ _; omega, by omega⟩, Nat.one_ne_zero⟩ fun nb2 nc2 hnc2 => ?_
    rw [Nat.zero_add, List.nil_append]
    -- fun w hw => hw.2.2.2.1: why the kind holds
    ((conv => whnf); (repeat ((first | refine Nd.mk (fun w hw => hw.2.2.2.1) ?_ | refine VrN.norm (wrap_i64 (by omega)) ?_ | refine VrN.keep ?_ | refine Nd.mk (by decide +kernel) ?_ | refine Nd.mk (by omega) ?_ | refine RdN.intro _ rfl (by rfl) ?_); (conv => whnf))))
    intro ib
    -- fun w hw => hw.2.2.2.1: why the kind holds
    ((conv => whnf); (repeat ((first | refine Nd.mk (fun w hw => hw.2.2.2.1) ?_ | refine VrN.norm (wrap_i64 (by omega)) ?_ | refine VrN.keep ?_ | refine Nd.mk (by decide +kernel) ?_ | refine Nd.mk (by omega) ?_ | refine RdN.intro _ rfl (by rfl) ?_); (conv => whnf))))
    refine app_any 5 [] (iC p.c.items) rfl (Nat.le_refl _) (fun h => by cases hq : p.ia with | none => rw [hpo.ia hq] at h; cases h | some b => rfl) (by show (iC p.c.items).length = p.c.items.length * 1; simp [iC]) (fun u hu => by obtain ⟨x, _, rfl⟩ := List.mem_map.1 hu; rfl) (fun w hw j v hv => (hw.1.2 p hpm).2.cell hv) ⟨⟨by show (0 + p.c.items.length) * 8 ≤ _; omega, by omega⟩, Nat.one_ne_zero⟩ fun ib2 ic2 hic2 => ?_
    rw [Nat.zero_add, List.nil_append]
    -- fun w hw => hw.2.2.2.1: why the kind holds
    ((conv => whnf); (repeat ((first | refine Nd.mk (fun w hw => hw.2.2.2.1) ?_ | refine VrN.norm (wrap_i64 (by omega)) ?_ | refine VrN.keep ?_ | refine Nd.mk (by decide +kernel) ?_ | refine Nd.mk (by omega) ?_ | refine RdN.intro _ rfl (by rfl) ?_); (conv => whnf))))
    refine RwN.own ?_
    -- fun w hw => hw.2.2.2.1: why the kind holds
    ((conv => whnf); (repeat ((first | refine Nd.mk (fun w hw => hw.2.2.2.1) ?_ | refine VrN.norm (wrap_i64 (by omega)) ?_ | refine VrN.keep ?_ | refine Nd.mk (by decide +kernel) ?_ | refine Nd.mk (by omega) ?_ | refine RdN.intro _ rfl (by rfl) ?_); (conv => whnf))))
    refine Nd.mk ⟨Nat.le_refl 1, rfl, rfl⟩ ?_
    (conv => whnf)
    refine AppN.grow 1 (grC m) (cellC ⟨p.c, some ⟨nb2, 0, none⟩, nc2, some ⟨ib2, 0, none⟩, ic2⟩) rfl rfl ⟨Nat.le_refl 1, ⟨by show (m.length + 1) * 80 ≤ _; omega, by omega⟩, by decide⟩ fun ob2 oc2 hoc2 _ => ?_
    -- fun w hw => hw.2.2.2.1: why the kind holds
    ((conv => whnf); (repeat ((first | refine Nd.mk (fun w hw => hw.2.2.2.1) ?_ | refine VrN.norm (wrap_i64 (by omega)) ?_ | refine VrN.keep ?_ | refine Nd.mk (by decide +kernel) ?_ | refine Nd.mk (by omega) ?_ | refine RdN.intro _ rfl (by rfl) ?_); (conv => whnf))))
    have hm2 : m.length + 1 = (m ++ [(⟨p.c, some ⟨nb2, 0, none⟩, nc2, some ⟨ib2, 0, none⟩, ic2⟩ : CellP)]).length := by simp
    have hg2 := grC_snoc m ⟨p.c, some ⟨nb2, 0, none⟩, nc2, some ⟨ib2, 0, none⟩, ic2⟩
    have hrw := rowsG_snoc m ⟨p.c, some ⟨nb2, 0, none⟩, nc2, some ⟨ib2, 0, none⟩, ic2⟩
    refine ⟨⟨i + 1, some ⟨ob2, 0, none⟩, oc2, m ++ [⟨p.c, some ⟨nb2, 0, none⟩, nc2, some ⟨ib2, 0, none⟩, ic2⟩]⟩, ⟨⟨by omega, ?_, ?_, (fun h => by cases h), by omega⟩, ?_⟩, by show l.length - (i + 1) < l.length - i; omega, ?_, _, ((famPut 2 4 rfl rfl rfl (List.perm_append_singleton _ _).symm).trans (famPut 2 5 rfl rfl rfl (List.perm_append_singleton _ _).symm)).s, ?_⟩
    · rw [List.take_add_one, hp, List.map_append, List.map_append, hmc]
      rfl
    · intro q hq
      rcases List.mem_append.1 hq with hq | hq
      · exact hmo q hq
      · rw [List.mem_singleton.1 hq]
        exact ⟨(fun h => by cases h), (fun h => by cases h), hpo.nl, hpo.il, hpo.nw, hpo.tl, by show p.c.names.length ≤ nc2; omega, by show p.c.items.length ≤ ic2; omega⟩
    · intro q hq
      rcases List.mem_append.1 hq with hq | hq
      · exact hom q hq
      · rw [List.mem_singleton.1 hq]
        exact ⟨fun ad h => by cases h; rfl, fun ad h => by cases h; rfl⟩
    · (repeat' (first | exact trivial | refine And.intro (by with_reducible rfl) ?_ | (with_reducible exact wkC_refl _) | (with_reducible exact wkCs_refl _) | refine And.intro ?_ ?_))
      all_goals first | rfl | exact av_int (by omega) | (rw [hm2])
    · show wkH _ [Ent.fact (GrF a l), .app 42 5 (grC (m ++ [_])) _ (m ++ [_]).length _, famE (rowsG (m ++ [_]))]
      rw [← hm2, hg2, hrw]
      refine ⟨wkE_refl _, wkE_refl _, ?_, trivial⟩
      rw [show rowsP (⟨p.c, some ⟨nb2, 0, none⟩, nc2, some ⟨ib2, 0, none⟩, ic2⟩ : CellP) = [⟨9, 1, p.c.names.length, strC p.c.names, nb2, nc2⟩] ++ [⟨3, 1, p.c.items.length, iC p.c.items, ib2, ic2⟩] from rfl, ← List.append_assoc]
      exact wkE_refl _
  · have hil : i = l.length := by omega
    subst hil
    rw [List.take_length] at hmc
    (first | refine wX ?_ | exact wZ)
    exact ⟨⟨l.length, oa, oc, m⟩, ⟨hoa, hmc, hmo, hom, hoc⟩, rfl, trivial, wkE_refl _, wkE_refl _, trivial⟩
end Go.Proofs.YtahjbnfbilkbcaaGreatDoor

/-
  Contract: slices.Clone, with memory of the caller's own.
-/
namespace Go.Proofs.YtahjbnfbilkbcaaGreatDoor
open Go.AX Go.RowKit Go.Core
set_option maxRecDepth 20000

/-- A row that was made, or nil. -/
def cloN (T : TypeId) (n : Nat) (xs : List Value) (o : Option Nat × Nat) : List Ent := [.app T 1 xs (at0 o.1) n o.2]
-- slices.Clone[[]int,int]: the function, int: the element's type, iC: the cells, cloneI: the theorem, Int: the elements in Lean, 8: bytes of one
set_option maxHeartbeats 1000000 in
theorem cloneI (a : Option Addr) (ca : Nat) (l : List (Int)) (ha : a = none → l = []) (hl : l.length ≤ 2000) : SpecH Tryz.prog 74 (pvs [.slice a l.length ca]) [.fact (SlAt a (l.length * 1) (iC l))]
    (RetG (ι := Option Nat × Nat) (fun o => (o.1 = none → l = []) ∧ l.length ≤ o.2) (fun o => .slice (at0 o.1) l.length o.2) (fun o => .dead :: cloN 3 l.length (iC l) o)) := by
  cases a with
  | none =>
    obtain rfl := ha rfl
    refine SpecH.pad [.app 3 1 [] none 0 0] rfl ?_
    refine ownC hm Tryz.func74 (by kernel_rfl) rfl rfl (fun _ _ => okHB_eq rfl) (fun _ _ => by show 2 ≤ 2; decide) ?_
    (first | refine wX ?_ | exact wZ)
    exact ⟨(none, 0), ⟨fun _ => rfl, Nat.le_refl _⟩, rfl, trivial, wkE_refl _, trivial⟩
  | some b =>
    refine ownC hm Tryz.func74 (by kernel_rfl) rfl rfl (fun _ _ => okHB_eq rfl) (fun _ _ => by show 1 ≤ 2; decide) ?_
    ((conv => whnf); (repeat ((first | refine BoxN.own ?_ | refine VrN.norm (wrap_i64 (by omega)) ?_ | refine VrN.keep ?_ | refine DrawN.calm (by decide +kernel) ?_ | refine Nd.mk (by decide +kernel) ?_ | refine Nd.mk (by omega) ?_ | (refine Nd.mk ?_ ?_; focus ((repeat' (first | exact trivial | exact wkE_refl _ | refine And.intro ?_ ?_)); done)) | refine RdN.intro _ rfl (by rfl) ?_); (conv => whnf))))
    refine RwN.known [] rfl fun nb => ?_
    ((conv => whnf); (repeat ((first | refine BoxN.own ?_ | refine VrN.norm (wrap_i64 (by omega)) ?_ | refine VrN.keep ?_ | refine DrawN.calm (by decide +kernel) ?_ | refine Nd.mk (by decide +kernel) ?_ | refine Nd.mk (by omega) ?_ | (refine Nd.mk ?_ ?_; focus ((repeat' (first | exact trivial | exact wkE_refl _ | refine And.intro ?_ ?_)); done)) | refine RdN.intro _ rfl (by rfl) ?_); (conv => whnf))))
    refine app_any 1 [] (iC l) rfl (Nat.le_refl _) (fun _ => rfl) (by show (iC l).length = l.length * 1; simp [iC]) (fun u hu => by obtain ⟨x, _, rfl⟩ := List.mem_map.1 hu; rfl) (fun w hw j v hv => hw.1.cell hv) ⟨⟨by show (0 + l.length) * 8 ≤ _; omega, by omega⟩, Nat.one_ne_zero⟩ fun nb2 nc2 hnc2 => ?_
    rw [Nat.zero_add, List.nil_append]
    ((conv => whnf); (repeat ((first | refine BoxN.own ?_ | refine VrN.norm (wrap_i64 (by omega)) ?_ | refine VrN.keep ?_ | refine DrawN.calm (by decide +kernel) ?_ | refine Nd.mk (by decide +kernel) ?_ | refine Nd.mk (by omega) ?_ | (refine Nd.mk ?_ ?_; focus ((repeat' (first | exact trivial | exact wkE_refl _ | refine And.intro ?_ ?_)); done)) | refine RdN.intro _ rfl (by rfl) ?_); (conv => whnf))))
    exact ⟨(some nb2, nc2), ⟨fun h => (by cases h), by show l.length ≤ nc2; omega⟩, rfl, trivial, wkE_refl _, trivial⟩
-- slices.Clone[[]string,string]: the function, string: the element's type, strC: the cells, cloneT: the theorem, List UInt8: the elements in Lean, 16: bytes of one
set_option maxHeartbeats 1000000 in
theorem cloneT (a : Option Addr) (ca : Nat) (l : List (List UInt8)) (ha : a = none → l = []) (hl : l.length ≤ 2000) : SpecH Tryz.prog 73 (pvs [.slice a l.length ca]) [.fact (SlAt a (l.length * 1) (strC l))]
    (RetG (ι := Option Nat × Nat) (fun o => (o.1 = none → l = []) ∧ l.length ≤ o.2) (fun o => .slice (at0 o.1) l.length o.2) (fun o => .dead :: cloN 9 l.length (strC l) o)) := by
  cases a with
  | none =>
    obtain rfl := ha rfl
    refine SpecH.pad [.app 9 1 [] none 0 0] rfl ?_
    refine ownC hm Tryz.func73 (by kernel_rfl) rfl rfl (fun _ _ => okHB_eq rfl) (fun _ _ => by show 2 ≤ 2; decide) ?_
    (first | refine wX ?_ | exact wZ)
    exact ⟨(none, 0), ⟨fun _ => rfl, Nat.le_refl _⟩, rfl, trivial, wkE_refl _, trivial⟩
  | some b =>
    refine ownC hm Tryz.func73 (by kernel_rfl) rfl rfl (fun _ _ => okHB_eq rfl) (fun _ _ => by show 1 ≤ 2; decide) ?_
    ((conv => whnf); (repeat ((first | refine BoxN.own ?_ | refine VrN.norm (wrap_i64 (by omega)) ?_ | refine VrN.keep ?_ | refine DrawN.calm (by decide +kernel) ?_ | refine Nd.mk (by decide +kernel) ?_ | refine Nd.mk (by omega) ?_ | (refine Nd.mk ?_ ?_; focus ((repeat' (first | exact trivial | exact wkE_refl _ | refine And.intro ?_ ?_)); done)) | refine RdN.intro _ rfl (by rfl) ?_); (conv => whnf))))
    refine RwN.known [] rfl fun nb => ?_
    ((conv => whnf); (repeat ((first | refine BoxN.own ?_ | refine VrN.norm (wrap_i64 (by omega)) ?_ | refine VrN.keep ?_ | refine DrawN.calm (by decide +kernel) ?_ | refine Nd.mk (by decide +kernel) ?_ | refine Nd.mk (by omega) ?_ | (refine Nd.mk ?_ ?_; focus ((repeat' (first | exact trivial | exact wkE_refl _ | refine And.intro ?_ ?_)); done)) | refine RdN.intro _ rfl (by rfl) ?_); (conv => whnf))))
    refine app_any 1 [] (strC l) rfl (Nat.le_refl _) (fun _ => rfl) (by show (strC l).length = l.length * 1; simp [strC]) (fun u hu => by obtain ⟨x, _, rfl⟩ := List.mem_map.1 hu; rfl) (fun w hw j v hv => hw.1.cell hv) ⟨⟨by show (0 + l.length) * 16 ≤ _; omega, by omega⟩, Nat.one_ne_zero⟩ fun nb2 nc2 hnc2 => ?_
    rw [Nat.zero_add, List.nil_append]
    ((conv => whnf); (repeat ((first | refine BoxN.own ?_ | refine VrN.norm (wrap_i64 (by omega)) ?_ | refine VrN.keep ?_ | refine DrawN.calm (by decide +kernel) ?_ | refine Nd.mk (by decide +kernel) ?_ | refine Nd.mk (by omega) ?_ | (refine Nd.mk ?_ ?_; focus ((repeat' (first | exact trivial | exact wkE_refl _ | refine And.intro ?_ ?_)); done)) | refine RdN.intro _ rfl (by rfl) ?_); (conv => whnf))))
    exact ⟨(some nb2, nc2), ⟨fun h => (by cases h), by show l.length ≤ nc2; omega⟩, rfl, trivial, wkE_refl _, trivial⟩
end Go.Proofs.YtahjbnfbilkbcaaGreatDoor

/-
  AX, fifty-sixth text: a row that may be nil is put into a family.
-/
namespace Go.AX

def optRow (T : TypeId) (sz n : Nat) (xs : List Value) (ob : Option Nat) (cap : Nat) : List RowD := match ob with | some b => [⟨T, sz, n, xs, b, cap⟩] | none => []
theorem famPutO {H : List Ent} (i j : Nat) {l l' : List RowD} {T : TypeId} {sz n cap : Nat} {xs : List Value} (ob : Option Nat) (hi : nthE H i = some (famE l)) (hj : nthE H j = some (.app T sz xs (ob.map fun b => ⟨b, 0, none⟩) n cap)) (hne : Nat.beq i j = false) (hp : (optRow T sz n xs ob cap ++ l).Perm l') : TurnE H ((H.set i (famE l')).set j .dead) := by
  cases ob with
  | some b => exact famPut i j hi hj hne hp
  | none =>
    rw [nthE_eq] at hi hj
    refine ⟨by rw [List.length_set, List.length_set], fun ρ S w hs => ?_⟩
    have hF : famF l w := (hs.ent i _ hi).1.1
    have hp' : l.Perm l' := hp
    have hF' : famF l' w := ⟨(hp'.map RowD.b).nodup_iff.1 hF.1, fun q hq => hF.2 q (hp'.mem_iff.2 hq)⟩
    refine hs.two hi hj (Nat.ne_of_beq_eq_false hne) (fun c hc => ?_) (fun _ _ hb => hb) (famE_ok hF') trivial
    rcases hc with ⟨q, hq, hqb⟩ | hc
    · exact .inl ⟨q, hp'.mem_iff.2 hq, hqb⟩
    · exact hc.elim
end Go.AX

/-
  Contracts: slices.Equal at strings.
-/
namespace Go.Proofs.YtahjbnfbilkbcaaGreatDoor
open Go.AX Go.RowKit Go.Core
set_option maxRecDepth 20000

theorem out_no {x y : List (List UInt8)} (h : ¬ x = y) : false = decide (x = y) := (decide_eq_false h).symm
theorem SEq_c (a b : Option Addr) (ac bc : Nat) (l m : List (List UInt8)) (ha : a = none → l = []) (hb : b = none → m = []) (hl : l.length ≤ 200000000000000) (hm2 : m.length ≤ 200000000000000) : ∀ H, (∀ w, Facts H w → SlAt a (l.length * 1) (strC l) w ∧ SlAt b (m.length * 1) (strC m) w) → SpecH Tryz.prog 57 (pvs [.slice a l.length ac, .slice b m.length bc]) H (Ret (.bool (decide (l = m))) H) := by
  refine factC hm Tryz.func57 (by kernel_rfl) rfl rfl ?_
  (first | refine wX ?_ | exact wZ)
  refine brd_ne (fun h1 => ?_) (fun h1 => ?_)
  · (first | refine wX ?_ | exact wZ)
    exact out_bool (out_no (fun e => h1 (by rw [e])))
  have hlen : l.length = m.length := by omega
  (first | refine wX ?_ | exact wZ)
  refine loopS Nat (fun i => i ≤ l.length ∧ l.take i = m.take i) (fun i => mkS Tryz.f57.ntmps 0 [(0, .c (.v (.slice a l.length ac))), (1, .c (.v (.slice b m.length bc))), (12, .c (.v (.int .i64 (l.length : Int)))), (13, .c (.v (.int .i64 (i : Int))))]) (fun i => l.length - i) rfl (fun _ => rfl) 0 ⟨Nat.zero_le _, rfl⟩ ?_ ?_
  · (repeat' (first | exact trivial | refine And.intro (by with_reducible rfl) ?_ | (with_reducible exact wkC_refl _) | (with_reducible exact wkCs_refl _) | refine And.intro ?_ ?_))
    all_goals rfl
  intro i ⟨hi, he⟩
  (first | refine wX ?_ | exact wZ)
  refine brd_dec (fun h6 => ?_) (fun h6 => ?_)
  · obtain ⟨s, hs⟩ : ∃ s, l[i]? = some s := ⟨_, List.getElem?_eq_getElem (by omega)⟩
    obtain ⟨t, ht⟩ : ∃ t, m[i]? = some t := ⟨_, List.getElem?_eq_getElem (by omega)⟩
    have hsa : a.isSome = true := by
      cases a with
      | none => rw [ha rfl] at hs; cases hs
      | some b => rfl
    have hsb : b.isSome = true := by
      cases b with
      | none => rw [hb rfl] at ht; cases ht
      | some b => rfl
    (first | refine wX ?_ | exact wZ)
    refine Nd.mk ⟨hsa, by omega, by omega⟩ ?_
    (first | refine wX ?_ | exact wZ)
    refine LdN.one (.string (bs s)) rfl (fun w hw => hw.1.1) (by rw [Int.toNat_natCast]; show (strC l)[i * 1]? = _; rw [Nat.mul_one]; exact strC_get hs) ?_
    (first | refine wX ?_ | exact wZ)
    refine Nd.mk ⟨hsb, by omega, by omega⟩ ?_
    (first | refine wX ?_ | exact wZ)
    refine LdN.one (.string (bs t)) rfl (fun w hw => hw.1.2) (by rw [Int.toNat_natCast]; show (strC m)[i * 1]? = _; rw [Nat.mul_one]; exact strC_get ht) ?_
    (first | refine wX ?_ | exact wZ)
    rw [txt_eq]
    cases h3 : s == t with
    | false =>
      (first | refine wX ?_ | exact wZ)
      exact out_bool (out_no (fun e => by rw [e, ht] at hs; rw [Option.some.inj hs] at h3; simp at h3))
    | true =>
      (first | refine wX ?_ | exact wZ)
      refine ⟨i + 1, ⟨by omega, names_at he hs ht (eq_of_beq h3)⟩, by omega, ?_, by (repeat' (first | exact trivial | exact wkE_refl _ | refine And.intro ?_ ?_))⟩
      (repeat' (first | exact trivial | refine And.intro (by with_reducible rfl) ?_ | (with_reducible exact wkC_refl _) | (with_reducible exact wkCs_refl _) | refine And.intro ?_ ?_))
      all_goals first | rfl | exact av_int (by rw [wrap_i64 (by omega)]; omega)
  · have hil : i = l.length := by omega
    subst hil
    rw [List.take_length, hlen, List.take_length] at he
    (first | refine wX ?_ | exact wZ)
    exact out_bool (decide_eq_true he).symm
end Go.Proofs.YtahjbnfbilkbcaaGreatDoor

/-
  AX, fifty-first text: maps with pairs of numbers as keys.
-/
namespace Go.AX

def pairV (p : Int × Int) : Value := .agg #[.int .i64 p.1, .int .i64 p.2]
/-- The type of a pair. -/
structure PairT (P : Program) (kt it : TypeId) : Prop where
  k : P.underlying kt = some (.array 2 it)
  i : P.underlying it = some (.int .i64)
  s : ∃ inf, P.info? it = some inf ∧ inf.size = 1
section
variable {P : Program} {kt it : TypeId}
theorem PairT.part (h : PairT P kt it) (w : World) {xs : Array Value} {off : Nat} {v : Value} (hx : xs[off]? = some v) : (Go.part it xs off).run P w = .ok v w := by
  simp [Go.part, isAgg, run_underlying h.i, hx]
theorem PairT.int (h : PairT P kt it) (w : World) (n : Nat) (x y : Int) : (Op.equalIn (n + 1) it (.int .i64 x) (.int .i64 y)).run P w = .ok (x == y) w := by
  unfold Op.equalIn
  simp [run_underlying h.i]
theorem PairT.equal (h : PairT P kt it) (w : World) (p q : Int × Int) : (Op.equal kt (pairV p) (pairV q)).run P w = .ok (decide (p = q)) w := by
  obtain ⟨inf, hi, hs⟩ := h.s
  obtain ⟨a, b⟩ := p
  obtain ⟨c, d⟩ := q
  have p1 : ∀ (x y : Int) (w : World), (Go.part it #[.int .i64 x, .int .i64 y] 0).run P w = .ok (.int .i64 x) w := fun x y w => h.part w rfl
  have p2 : ∀ (x y : Int) (w : World), (Go.part it #[.int .i64 x, .int .i64 y] 1).run P w = .ok (.int .i64 y) w := fun x y w => h.part w rfl
  have he := fun x y => h.int w 9998 x y
  have hso : (sizeOf it).run P w = .ok 1 w := by rw [← hs]; simp [sizeOf, typeInfo, hi, Result.andThen]
  show (Op.equalIn (9999 + 1) kt (.agg #[.int .i64 a, .int .i64 b]) (.agg #[.int .i64 c, .int .i64 d])).run P w = _
  unfold Op.equalIn
  simp only [Sem.run_bind, run_underlying h.k, Result.andThen_ok]
  simp only [Std.Legacy.Range.forIn_eq_forIn_range', Std.Legacy.Range.size, Nat.sub_zero, Nat.add_one_sub_one, Nat.div_one]
  rw [show List.range' 0 2 = [0, 1] from rfl]
  simp only [List.forIn_cons, List.forIn_nil, Sem.run_bind, hso, Result.andThen_ok, Nat.mul_one, p1, he]
  by_cases h1 : a = c
  · subst h1
    by_cases h2 : b = d
    · subst h2
      simp [p2, he, Result.andThen]
    · simp [p2, he, Result.andThen, h2]
  · simp [Result.andThen, h1]
theorem PairT.check (h : PairT P kt it) (w : World) (e : Bool) (p : Int × Int) : (Instr.checkKey e 10000 kt (pairV p)).run P w = .ok () w := by
  obtain ⟨inf, hi, hs⟩ := h.s
  obtain ⟨a, b⟩ := p
  have p1 : ∀ (x y : Int) (w : World), (Go.part it #[.int .i64 x, .int .i64 y] 0).run P w = .ok (.int .i64 x) w := fun x y w => h.part w rfl
  have p2 : ∀ (x y : Int) (w : World), (Go.part it #[.int .i64 x, .int .i64 y] 1).run P w = .ok (.int .i64 y) w := fun x y w => h.part w rfl
  have hc : ∀ x, (Instr.checkKey e 9999 it (.int .i64 x)).run P w = .ok () w := fun x => MapKept.run_checkKey (k := .int .i64 x) h.i (by simp [MapKept.IsKey]) e 9998
  have hso : (sizeOf it).run P w = .ok 1 w := by rw [← hs]; simp [sizeOf, typeInfo, hi, Result.andThen]
  show (Instr.checkKey e (9999 + 1) kt (.agg #[.int .i64 a, .int .i64 b])).run P w = _
  unfold Instr.checkKey
  simp only [Sem.run_bind, run_underlying h.k, Result.andThen_ok]
  simp only [Std.Legacy.Range.forIn_eq_forIn_range', Std.Legacy.Range.size, Nat.sub_zero, Nat.add_one_sub_one, Nat.div_one]
  rw [show List.range' 0 2 = [0, 1] from rfl]
  simp only [List.forIn_cons, List.forIn_nil, Sem.run_bind, hso, Result.andThen_ok, Nat.mul_one, p1, p2, hc, Sem.run_pure]
/-- What a map with pairs as keys holds. -/
def PairsAre (es : List MapEntry) (R : List ((Int × Int) × Value)) : Prop := es.map (fun e => (e.key, e.val)) = R.map fun r => (pairV r.1, r.2)
theorem PairT.find (h : PairT P kt it) (w : World) (p : Int × Int) : ∀ (es : List MapEntry) (R : List ((Int × Int) × Value)) (i : Nat), PairsAre es R → ∃ j, (Instr.findAsking kt (pairV p) es i).run P w = .ok ((R.lookup p).map fun v => (j, v)) w
  | [], [], i, _ => ⟨0, by simp [Instr.findAsking]⟩
  | [], r :: R, i, hr => by cases hr
  | e :: es, [], i, hr => by cases hr
  | e :: es, (q, v) :: R, i, hr => by
    unfold PairsAre at hr
    simp only [List.map_cons, List.cons.injEq, Prod.mk.injEq] at hr
    obtain ⟨⟨hk, hv⟩, hr⟩ := hr
    obtain ⟨j, hj⟩ := h.find w p es R (i + 1) hr
    have he := h.equal w p q
    rw [← hk] at he
    by_cases hpq : p = q
    · subst hpq
      refine ⟨i, ?_⟩
      rw [List.lookup_cons, beq_self_eq_true]
      simp [Instr.findAsking, he, hv, Result.andThen]
    · refine ⟨j, ?_⟩
      rw [List.lookup_cons, show (p == q) = false by simp [hpq]]
      simp [Instr.findAsking, he, hpq, hj, Result.andThen]
theorem PairT.findKey (h : PairT P kt it) (w : World) (p : Int × Int) {es : List MapEntry} {R : List ((Int × Int) × Value)} (hr : PairsAre es R) : ∃ j, (Instr.findKey kt (pairV p) es).run P w = .ok ((R.lookup p).map fun v => (j, v)) w := by
  rw [run_findKey_eq w (by rw [h.k])]
  exact h.find w p es R 0 hr
theorem PairsAre.put {es : Array MapEntry} {R : List ((Int × Int) × Value)} (h : PairsAre es.toList R) (p : Int × Int) (v : Value) (born : Nat) : PairsAre (es.push { key := pairV p, val := v, born := born }).toList (R ++ [(p, v)]) := by
  unfold PairsAre at *
  rw [Array.toList_push, List.map_append, List.map_append, h]
  rfl
end
/-- m[k] with a pair -/
theorem ReadW.pairMap {P : Program} {o : Oper} {s : List AV} {H : List Ent} {K : AV → Prop} {t kt et it : TypeId} {m k : Operand} {b c : Nat} {es : Array MapEntry} {p : Int × Int} {inf : TypeInfo} {z : Value} (R : List ((Int × Int) × Value)) (ho : o.op = .lookup t m k false) (ht : P.underlying t = some (.map kt et)) (hkt : PairT P kt it) (hi : P.info? et = some inf) (hz : inf.zero = some z)
    (hm : opv s m = .c (.v (.map (some b)))) (hk : opv s k = .c (.v (pairV p))) (hF : ∀ w, Facts H w → w.heap[b]? = some (.map es c)) (hf : PairsAre es.toList R) (h : K (.c (.v ((R.lookup p).getD z)))) : ReadW P o s H K :=
  ReadW.val ((R.lookup p).getD z) (fun cs b e => by rw [ho] at e; cases e) (by rw [ho]; show allPlain s [m, k] = true; simp [allPlain, hm, hk]) (fun w hw => by
    have hb := hF w hw
    have hc := hkt.check w es.isEmpty p
    obtain ⟨j, hj⟩ := hkt.findKey w p hf
    have hrun : (Instr.lookup t (.map (some b)) (pairV p) false).run P w = .ok ((R.lookup p).getD z) w := by
      cases hr : R.lookup p with
      | none => rw [hr] at hj; simp [Instr.lookup, run_underlying ht, MapKept.run_getObj_map hb, hc, hj, Result.andThen, run_zeroValue hi hz]
      | some q => rw [hr] at hj; simp [Instr.lookup, run_underlying ht, MapKept.run_getObj_map hb, hc, hj, Result.andThen]
    unfold execOp
    simp only [ho, plainEv_v hm, plainEv_v hk, Sem.run_bind, hrun, Result.andThen_ok, Sem.run_pure]) h
/-- [2]int{x, y} -/
theorem ReadW.pair {P : Program} {o : Oper} {s : List AV} {H : List Ent} {K : AV → Prop} {T it : TypeId} {x y : Operand} {a b : Int} {inf : TypeInfo} (ho : o.op = .build T #[(0, x), (1, y)]) (hT : PairT P T it) (hi : P.info? T = some inf) (hz : inf.zero = some (.agg #[.int .i64 0, .int .i64 0]))
    (hx : opv s x = .c (.v (.int .i64 a))) (hy : opv s y = .c (.v (.int .i64 b))) (h : K (.c (.v (pairV (a, b))))) : ReadW P o s H K :=
  ReadW.val (pairV (a, b)) (fun cs b e => by rw [ho] at e; cases e) (by rw [ho]; show allPlain s [x, y] = true; simp [allPlain, hx, hy]) (fun w hw => by
    obtain ⟨i1, hi1, hs1⟩ := hT.s
    have hso : (sizeOf it).run P w = .ok 1 w := by rw [← hs1]; simp [sizeOf, typeInfo, hi1, Result.andThen]
    have hb : (Instr.build T #[(0, plainEv s x), (1, plainEv s y)]).run P w = .ok (pairV (a, b)) w := by
      rw [plainEv_v hx, plainEv_v hy]
      unfold Instr.build
      simp only [Sem.run_bind, run_zeroValue hi hz, run_underlying hT.k, Result.andThen_ok, hso]
      rfl
    unfold execOp
    simp [ho, hb, Result.andThen]) h
/-- m[k] = v: a new pair -/
theorem EffW.putPair {P : Program} {o : Oper} {s : List AV} {H : List Ent} {K : AV → List Ent → Prop} {t kt et it : TypeId} {m k x : Operand} {b c : Nat} {es : Array MapEntry} {p : Int × Int} {val : Value} (i : Nat) (R : List ((Int × Int) × Value)) (ho : o.op = .mapUpdate t m k x) (ht : P.underlying t = some (.map kt et)) (hkt : PairT P kt it)
    (hm : opv s m = .c (.v (.map (some b)))) (hk : opv s k = .c (.v (pairV p))) (hx : opv s x = .c (.v val)) (hi : nthE H i = some (.mp b es c)) (hf : PairsAre es.toList R) (hnew : R.lookup p = none)
    (next : setEK H i (.mp b (es.push { key := pairV p, val := val, born := c }) (c + 1)) fun H' => K (.c .any) H') : EffW P o s H K := by
  rw [nthE_eq] at hi
  obtain ⟨_, hk2⟩ := setEK_spec next
  refine Effs.w (fun ρ S w a hs hr => ?_) hk2
  have h1 : a.eval m = .map (some b) := by have := opv_rel hr m; rw [hm] at this; exact this
  have h2 : a.eval k = pairV p := by have := opv_rel hr k; rw [hk] at this; exact this
  have h3 : a.eval x = val := by have := opv_rel hr x; rw [hx] at this; exact this
  have hb : w.heap[b]? = some (.map es c) := hs.ent i _ hi
  have hbl : b < w.heap.size := (Array.getElem?_eq_some_iff.1 hb).1
  have hc := hkt.check w false p
  obtain ⟨j, hj⟩ := hkt.findKey w p hf
  rw [hnew] at hj
  have hrun : (Instr.mapUpdate t (.map (some b)) (pairV p) val).run P w = .ok () { w with heap := w.heap.setIfInBounds b (.map (es.push { key := pairV p, val := val, born := c }) (c + 1)) } := by
    simp [Instr.mapUpdate, run_underlying ht, MapKept.run_getObj_map hb, hc, hj, MapKept.run_setObj_map _ hb, Result.andThen]
  have hS := hs.setG (e' := .mp b (es.push { key := pairV p, val := val, born := c }) (c + 1)) (c := b) (w' := { w with heap := w.heap.setIfInBounds b (.map (es.push { key := pairV p, val := val, born := c }) (c + 1)) }) hi rfl (by simp) (fun j _ hne => by simp [Ne.symm hne]) rfl rfl rfl (fun _ hc => .inl (Option.some.inj hc).symm) (by show (w.heap.setIfInBounds b _)[b]? = _; simp [hbl])
  refine ⟨.skip, undef, ρ, _, ?_, .inr ⟨rfl, rfl⟩, hS.1, hS.2, trivial⟩
  unfold execOp
  simp only [ho, h1, h2, h3, Sem.run_bind, Sem.run_pure, hrun, Result.andThen_ok]
end Go.AX

/-
  Contract: the closure that walks two cells (program's Equal).
-/
namespace Go.Core
def seenR (R : List (Int × Int)) : List ((Int × Int) × Value) := R.map fun p => (p, .bool true)
theorem seen_get (R : List (Int × Int)) (p : Int × Int) : ((seenR R).lookup p).getD (.bool false) = .bool (decide (p ∈ R)) := by
  unfold seenR
  induction R with
  | nil => rfl
  | cons q R ih =>
    rw [List.map_cons, List.lookup_cons]
    by_cases h : p = q
    · subst h
      rw [beq_self_eq_true]
      simp
    · rw [show (p == q) = false by simp [h], ih]
      simp [h]
theorem seen_none {R : List (Int × Int)} {p : Int × Int} (h : ¬ p ∈ R) : (seenR R).lookup p = none := by
  unfold seenR
  induction R with
  | nil => rfl
  | cons q R ih =>
    rw [List.map_cons, List.lookup_cons]
    simp only [List.mem_cons, not_or] at h
    rw [show (p == q) = false by simp [h.1]]
    exact ih h.2
theorem seen_put (R : List (Int × Int)) (p : Int × Int) : seenR R ++ [(p, .bool true)] = seenR (R ++ [p]) := by unfold seenR; rw [List.map_append]; rfl
end Go.Core
namespace Go.Proofs.YtahjbnfbilkbcaaGreatDoor
open Go.AX Go.RowKit Go.Core
set_option maxRecDepth 20000

theorem alike_of {x y : Cell} (h1 : x.kind = y.kind) (h2 : x.num = y.num) (h3 : x.text = y.text) (h4 : x.names = y.names) (h5 : x.items.length = y.items.length) : alikeB x y = true := by
  unfold alikeB
  simp [h1, h2, h3, h4, h5]
theorem pairT : PairT Tryz.prog 95 3 := ⟨by kernel_rfl, by kernel_rfl, _, rfl, rfl⟩
/-- What the closure knows. -/
def eqF (a : Option Addr) (ca : Nat) (l : List CellP) (sb gb fb mb : Nat) (w : World) : Prop :=
  GrF a l w ∧ SlAt (some ⟨sb, 0, none⟩) 1 [.map (some mb)] w ∧ SlAt (some ⟨gb, 0, none⟩) 1 [.slice a l.length ca] w ∧ SlAt (some ⟨fb, 0, none⟩) 1 [.func (.func 56) #[] #[.pointer (some ⟨sb, 0, none⟩), .pointer (some ⟨gb, 0, none⟩), .pointer (some ⟨fb, 0, none⟩)]] w
def eqA (u v : Int) (sb gb fb : Nat) : List AV := pvs [.int .i64 u, .int .i64 v, .pointer (some ⟨sb, 0, none⟩), .pointer (some ⟨gb, 0, none⟩), .pointer (some ⟨fb, 0, none⟩)]
def eqH (F : World → Prop) (mb : Nat) (i : Array MapEntry × Nat) : List Ent := [.mp mb i.1 i.2, .fact F]
theorem eqH_ok (F : World → Prop) (mb : Nat) (i : Array MapEntry × Nat) : okH (eqH F mb i).length (eqH F mb i) := okHB_eq rfl
set_option maxHeartbeats 4000000 in
theorem same_c (a : Option Addr) (ca : Nat) (l : List CellP) (ha : a = none → l = []) (hs : Small l) (hok : ∀ p ∈ l, CellOk p) (hg : InG (l.map (·.c))) (sb gb fb mb : Nat) : ∀ (n : Nat) (R : List (Int × Int)) (i : Array MapEntry × Nat) (p : Int × Int), InP (l.map (·.c)) p → left (l.map (·.c)) R < n → PairsAre i.1.toList (seenR R) →
    SpecH Tryz.prog 56 (eqA p.1 p.2 sb gb fb) (eqH (eqF a ca l sb gb fb mb) mb i) (RetG (ι := Array MapEntry × Nat) (fun j => PairsAre j.1.toList (seenR (sameF (l.map (·.c)) n R p).2)) (fun _ => .bool (sameF (l.map (·.c)) n R p).1) (eqH (eqF a ca l sb gb fb mb) mb)) := by
  intro n
  induction n with
  | zero => intro R i p _ h; omega
  | succ n ih =>
    rintro R ⟨es, c⟩ ⟨u0, v0⟩ hp hn hR
    obtain ⟨u, rfl⟩ : ∃ u : Nat, u0 = (u : Int) := ⟨u0.toNat, by have := hp.1; simp only at this; omega⟩
    obtain ⟨v, rfl⟩ : ∃ v : Nat, v0 = (v : Int) := ⟨v0.toNat, by have := hp.2; simp only at this; omega⟩
    have hu : u < l.length := by have := hp.1.2; simp only [List.length_map] at this; omega
    have hv : v < l.length := by have := hp.2.2; simp only [List.length_map] at this; omega
    obtain ⟨x, hx⟩ : ∃ x, l[u]? = some x := ⟨_, List.getElem?_eq_getElem hu⟩
    obtain ⟨y, hy⟩ : ∃ y, l[v]? = some y := ⟨_, List.getElem?_eq_getElem hv⟩
    have hxm := List.mem_of_getElem? hx
    have hym := List.mem_of_getElem? hy
    have hxo := hok x hxm
    have hyo := hok y hym
    have hxs := hs.2 x hxm
    have hys := hs.2 y hym
    have hl := hs.1
    have hsa : a.isSome = true := by
      cases a with
      | none => rw [ha rfl] at hu; exact absurd hu (Nat.not_lt_zero _)
      | some b => rfl
    show SpecH _ _ (eqA (u : Int) (v : Int) sb gb fb) _ _
    refine ownC hm Tryz.func56 (by kernel_rfl) rfl rfl (fun _ _ => eqH_ok _ _ _) (fun _ _ => Nat.le_refl _) ?_
    (first | refine wX ?_ | exact wZ)
    refine LdN.one (a := some ⟨sb, 0, none⟩) (q := 0) (.map (some mb)) rfl (fun w hw => hw.2.1.2.1) rfl ?_
    (first | refine wX ?_ | exact wZ)
    refine ReadW.pair rfl pairT rfl rfl rfl rfl ?_
    (first | refine wX ?_ | exact wZ)
    refine ReadW.pairMap (et := 4) (seenR R) rfl (by kernel_rfl) pairT rfl rfl rfl rfl (fun w hw => hw.1) hR ?_
    rw [seen_get]
    (first | refine wX ?_ | exact wZ)
    refine brd_dec (fun hmem => ?_) (fun hmem => ?_)
    · have hsf : sameF (l.map (·.c)) (n + 1) R ((u : Int), (v : Int)) = (true, R) := by unfold sameF; rw [if_pos hmem]
      rw [hsf]
      (first | refine wX ?_ | exact wZ)
      exact ⟨(es, c), hR, rfl, wkH_refl _⟩
    have hsf : sameF (l.map (·.c)) (n + 1) R ((u : Int), (v : Int)) = if ok (l.map (·.c)) ((u : Int), (v : Int)) then walkL (sameF (l.map (·.c)) n) (R ++ [((u : Int), (v : Int))]) (nextP (l.map (·.c)) ((u : Int), (v : Int))) else (false, R ++ [((u : Int), (v : Int))]) := by
      conv => lhs; unfold sameF
      rw [if_neg hmem]
    rw [hsf]
    have hlt := left_lt hp hmem
    have hR2 := hR.put ((u : Int), (v : Int)) (.bool true) c
    rw [seen_put] at hR2
    (first | refine wX ?_ | exact wZ)
    refine LdN.one (a := some ⟨sb, 0, none⟩) (q := 0) (.map (some mb)) rfl (fun w hw => hw.2.1.2.1) rfl ?_
    (first | refine wX ?_ | exact wZ)
    refine ReadW.pair rfl pairT rfl rfl rfl rfl ?_
    (first | refine wX ?_ | exact wZ)
    refine EffW.putPair (et := 4) 0 (seenR R) rfl (by kernel_rfl) pairT rfl rfl rfl rfl hR (seen_none hmem) ?_
    simp only at hR2
    generalize R ++ [((u : Int), (v : Int))] = R2 at *
    generalize es.push { key := pairV ((u : Int), (v : Int)), val := .bool true, born := c } = es2 at *
    generalize c + 1 = c2 at *
    (first | refine wX ?_ | exact wZ)
    refine DrawN.planR hm (fun w => eqF a ca l sb gb fb mb w) [1, 5] [(0, 1), (4, 1), (2, 1), (3, 1), (6, 1), (7, 1), (8, 2), (9, 2), (10, 0), (11, 0)] (by decide +kernel) (fun w hw => hw.2.1) ?_
    -- fun w hw => hw.2.1: why the kind holds
    ((conv => whnf); (repeat ((first | refine Nd.mk (fun w hw => hw.2.1) ?_ | refine VrN.norm (wrap_i64 (by omega)) ?_ | refine VrN.keep ?_ | refine DrawN.calm (by decide +kernel) ?_ | refine Nd.mk (by decide +kernel) ?_ | refine Nd.mk (by omega) ?_ | refine RdN.intro _ rfl (by rfl) ?_); (conv => whnf))))
    refine ReadC.one (a := some ⟨gb, 0, none⟩) (q := 0) (.slice a l.length ca) rfl rfl rfl (fun w hw => hw.2.2.1) rfl ?_
    -- fun w hw => hw.2.1: why the kind holds
    ((conv => whnf); (repeat ((first | refine Nd.mk (fun w hw => hw.2.1) ?_ | refine VrN.norm (wrap_i64 (by omega)) ?_ | refine VrN.keep ?_ | refine DrawN.calm (by decide +kernel) ?_ | refine Nd.mk (by decide +kernel) ?_ | refine Nd.mk (by omega) ?_ | refine RdN.intro _ rfl (by rfl) ?_); (conv => whnf))))
    refine ReadC.one (a := some ⟨gb, 0, none⟩) (q := 0) (.slice a l.length ca) rfl rfl rfl (fun w hw => hw.2.2.1) rfl ?_
    -- fun w hw => hw.2.1: why the kind holds
    ((conv => whnf); (repeat ((first | refine Nd.mk (fun w hw => hw.2.1) ?_ | refine VrN.norm (wrap_i64 (by omega)) ?_ | refine VrN.keep ?_ | refine DrawN.calm (by decide +kernel) ?_ | refine Nd.mk (by decide +kernel) ?_ | refine Nd.mk (by omega) ?_ | refine RdN.intro _ rfl (by rfl) ?_); (conv => whnf))))
    refine ReadC.idxA (e := 42) (sz := 5) u rfl Tryz.underlying22 rfl rfl rfl rfl hsa hu ?_
    -- fun w hw => hw.2.1: why the kind holds
    ((conv => whnf); (repeat ((first | refine Nd.mk (fun w hw => hw.2.1) ?_ | refine VrN.norm (wrap_i64 (by omega)) ?_ | refine VrN.keep ?_ | refine DrawN.calm (by decide +kernel) ?_ | refine Nd.mk (by decide +kernel) ?_ | refine Nd.mk (by omega) ?_ | refine RdN.intro _ rfl (by rfl) ?_); (conv => whnf))))
    refine ReadC.agg (cellC x) rfl rfl rfl (fun w hw => hw.1.1) rfl (fun k hk => grC_get l u k hk hx) ?_
    -- fun w hw => hw.2.1: why the kind holds
    ((conv => whnf); (repeat ((first | refine Nd.mk (fun w hw => hw.2.1) ?_ | refine VrN.norm (wrap_i64 (by omega)) ?_ | refine VrN.keep ?_ | refine DrawN.calm (by decide +kernel) ?_ | refine Nd.mk (by decide +kernel) ?_ | refine Nd.mk (by omega) ?_ | refine RdN.intro _ rfl (by rfl) ?_); (conv => whnf))))
    refine ReadC.idxA (e := 42) (sz := 5) v rfl Tryz.underlying22 rfl rfl rfl rfl hsa hv ?_
    -- fun w hw => hw.2.1: why the kind holds
    ((conv => whnf); (repeat ((first | refine Nd.mk (fun w hw => hw.2.1) ?_ | refine VrN.norm (wrap_i64 (by omega)) ?_ | refine VrN.keep ?_ | refine DrawN.calm (by decide +kernel) ?_ | refine Nd.mk (by decide +kernel) ?_ | refine Nd.mk (by omega) ?_ | refine RdN.intro _ rfl (by rfl) ?_); (conv => whnf))))
    refine ReadC.agg (cellC y) rfl rfl rfl (fun w hw => hw.1.1) rfl (fun k hk => grC_get l v k hk hy) ?_
    -- fun w hw => hw.2.1: why the kind holds
    ((conv => whnf); (repeat ((first | refine Nd.mk (fun w hw => hw.2.1) ?_ | refine VrN.norm (wrap_i64 (by omega)) ?_ | refine VrN.keep ?_ | refine DrawN.calm (by decide +kernel) ?_ | refine Nd.mk (by decide +kernel) ?_ | refine Nd.mk (by omega) ?_ | refine RdN.intro _ rfl (by rfl) ?_); (conv => whnf))))
    have hoke : ok (l.map (·.c)) ((u : Int), (v : Int)) = alikeB x.c y.c := by unfold ok; rw [at_map hx, at_map hy]
    have hnx : nextP (l.map (·.c)) ((u : Int), (v : Int)) = x.c.items.zip y.c.items := by unfold nextP; rw [at_map hx, at_map hy]
    rw [hoke, hnx]
    refine brd_ne (fun h1 => ?_) (fun h1 => ?_)
    · -- 1: which one of the five it is
      rw [if_neg (show ¬ alikeB x.c y.c = true from fun h => h1 ((alike_to h).1))]
      (first | refine wX ?_ | exact wZ)
      exact ⟨(es2, c2), hR2, rfl, wkE_refl _, wkE_refl _, trivial⟩
    (first | refine wX ?_ | exact wZ)
    refine brd_ne (fun h2 => ?_) (fun h2 => ?_)
    · have h1 := h2
      -- 2.1: which one of the five it is
      rw [if_neg (show ¬ alikeB x.c y.c = true from fun h => h1 ((alike_to h).2.1))]
      (first | refine wX ?_ | exact wZ)
      exact ⟨(es2, c2), hR2, rfl, wkE_refl _, wkE_refl _, trivial⟩
    (first | refine wX ?_ | exact wZ)
    try rw [bne]
    rw [txt_eq]
    cases h3 : x.c.text == y.c.text with
    | false =>
      have h1 : ¬ x.c.text = y.c.text := by simpa using h3
      -- 2.2.1: which one of the five it is
      rw [if_neg (show ¬ alikeB x.c y.c = true from fun h => h1 ((alike_to h).2.2.1))]
      (first | refine wX ?_ | exact wZ)
      exact ⟨(es2, c2), hR2, rfl, wkE_refl _, wkE_refl _, trivial⟩
    | true =>
    have h3' : x.c.text = y.c.text := eq_of_beq h3
    (first | refine wX ?_ | exact wZ)
    refine call1 (SEq_c x.na y.na x.nc y.nc x.c.names y.c.names hxo.na hyo.na hxo.nl hyo.nl _ (fun w hw => ⟨(hw.2.1.1.2 x hxm).1, (hw.2.1.1.2 y hym).1⟩)) ?_
    cases h4 : decide (x.c.names = y.c.names) with
    | false =>
      have h1 : ¬ x.c.names = y.c.names := of_decide_eq_false h4
      -- 2.2.2.1: which one of the five it is
      rw [if_neg (show ¬ alikeB x.c y.c = true from fun h => h1 ((alike_to h).2.2.2.1))]
      (first | refine wX ?_ | exact wZ)
      exact ⟨(es2, c2), hR2, rfl, wkE_refl _, wkE_refl _, trivial⟩
    | true =>
    have h4' := of_decide_eq_true h4
    (first | refine wX ?_ | exact wZ)
    refine brd_ne (fun h5 => ?_) (fun h5 => ?_)
    · have h1 : ¬ x.c.items.length = y.c.items.length := fun e => h5 (by rw [e])
      -- 2.2.2.2: which one of the five it is
      rw [if_neg (show ¬ alikeB x.c y.c = true from fun h => h1 ((alike_to h).2.2.2.2))]
      (first | refine wX ?_ | exact wZ)
      exact ⟨(es2, c2), hR2, rfl, wkE_refl _, wkE_refl _, trivial⟩
    have h5' : x.c.items.length = y.c.items.length := by omega
    rw [if_pos (show alikeB x.c y.c = true from alike_of h1 h2 h3' h4' h5')]
    (first | refine wX ?_ | exact wZ)
    obtain ⟨W, hW⟩ : ∃ W, W = walkL (sameF (l.map (·.c)) n) R2 (x.c.items.zip y.c.items) := ⟨_, rfl⟩
    rw [← hW]
    refine LoopN.intro (Nat × (Array MapEntry × Nat) × List (Int × Int)) (fun ⟨k, j, R3⟩ => k ≤ x.c.items.length ∧ PairsAre j.1.toList (seenR R3) ∧ (∀ q ∈ R2, q ∈ R3) ∧ walkL (sameF (l.map (·.c)) n) R3 ((x.c.items.zip y.c.items).drop k) = W)
      (fun ⟨k, j, R3⟩ => mkS Tryz.f56.ntmps 0 [(4, .c (.v (.pointer (some ⟨fb, 0, none⟩)))), (8, .c (.lp 2 0)), (9, .c (.lp 3 0)), (66, .c (.v (.int .i64 (x.c.items.length : Int)))), (67, .c (.v (.int .i64 (k : Int))))])
      (fun ⟨k, j, R3⟩ => [.mp mb j.1 j.2, .fact (eqF a ca l sb gb fb mb), .blk 42 (vs (cellC x)), .blk 42 (vs (cellC y))]) (fun ⟨k, _, _⟩ => x.c.items.length - k) [] rfl (fun ⟨_, _, _⟩ => rfl) (fun ⟨_, _, _⟩ => rfl) (fun ⟨_, _, _⟩ _ => okHB_eq rfl) ?_ ?_
    · refine ⟨(0, (es2, c2), R2), ⟨Nat.zero_le _, hR2, fun _ h => h, hW.symm⟩, ?_, wkE_refl _, wkE_refl _, wkE_refl _, wkE_refl _, trivial⟩
      (repeat' (first | exact trivial | refine And.intro (by with_reducible rfl) ?_ | (with_reducible exact wkC_refl _) | (with_reducible exact wkCs_refl _) | refine And.intro ?_ ?_))
      all_goals rfl
    rintro ⟨k, ⟨es3, c3⟩, R3⟩ ⟨hk, hR3, hsub, hwk⟩
    simp only at hR3
    (first | refine wX ?_ | exact wZ)
    refine brd_dec (fun h6 => ?_) (fun h6 => ?_)
    · obtain ⟨xi, hxi⟩ : ∃ z, x.c.items[k]? = some z := ⟨_, List.getElem?_eq_getElem (by omega)⟩
      obtain ⟨yi, hyi⟩ : ∃ z, y.c.items[k]? = some z := ⟨_, List.getElem?_eq_getElem (by omega)⟩
      have hxa : x.ia.isSome = true := by
        cases hq : x.ia with
        | none => rw [hxo.ia hq] at hxi; cases hxi
        | some b => rfl
      have hya : y.ia.isSome = true := by
        cases hq : y.ia with
        | none => rw [hyo.ia hq] at hyi; cases hyi
        | some b => rfl
      ((conv => whnf); (repeat ((first | refine VrN.keep ?_ | refine BoxN.own ?_ | refine RwN.own ?_); (conv => whnf))))
      refine DrawN.plan [1, 3, 6, 8] [(0, 1), (2, 1), (4, 1), (5, 1), (7, 1), (9, 1), (10, 1)] [(11, 0), (12, 0)] (by decide +kernel) ?_
      (first | refine wX ?_ | exact wZ)
      refine LdN.one (a := some ⟨fb, 0, none⟩) (q := 0) (.func (.func 56) #[] #[.pointer (some ⟨sb, 0, none⟩), .pointer (some ⟨gb, 0, none⟩), .pointer (some ⟨fb, 0, none⟩)]) rfl (fun w hw => hw.2.1.2.2.2) rfl ?_
      (first | refine wX ?_ | exact wZ)
      refine Nd.mk ⟨hxa, by omega, by omega⟩ ?_
      (first | refine wX ?_ | exact wZ)
      refine LdN.one (.int .i64 xi) rfl (fun w hw => (hw.2.1.1.2 x hxm).2) (by rw [Int.toNat_natCast]; show (iC x.c.items)[k * 1]? = _; rw [Nat.mul_one]; exact iC_get hxi) ?_
      (first | refine wX ?_ | exact wZ)
      refine Nd.mk ⟨hya, by omega, by omega⟩ ?_
      (first | refine wX ?_ | exact wZ)
      refine LdN.one (.int .i64 yi) rfl (fun w hw => (hw.2.1.1.2 y hym).2) (by rw [Int.toNat_natCast]; show (iC y.c.items)[k * 1]? = _; rw [Nat.mul_one]; exact iC_get hyi) ?_
      (first | refine wX ?_ | exact wZ)
      refine SpecH.args (args' := eqA xi yi sb gb fb) (by simp [eqA, pvs, opvs, opv, nth, plainEv]; try rfl) ?_
      have hz : (x.c.items.zip y.c.items)[k]? = some (xi, yi) := List.getElem?_zip_eq_some.2 ⟨hxi, hyi⟩
      have hin : InP (l.map (·.c)) (xi, yi) := next_in hg hp (by rw [hnx]; exact List.mem_of_getElem? hz)
      have hlf := left_mono (g := l.map (·.c)) hsub
      refine callG (ih R3 (es3, c3) (xi, yi) hin (by omega) hR3) [0, 1] rfl ⟨rfl, rfl, trivial⟩ rfl fun ⟨es4, c4⟩ hR4 => ?_
      obtain ⟨⟨b, R4⟩, hb⟩ : ∃ z, sameF (l.map (·.c)) n R3 (xi, yi) = z := ⟨_, rfl⟩
      have hk1 : k < (x.c.items.zip y.c.items).length := (List.getElem?_eq_some_iff.1 hz).1
      rw [List.drop_eq_getElem_cons hk1, (List.getElem?_eq_some_iff.1 hz).2] at hwk
      unfold walkL at hwk
      rw [hb] at hwk hR4 ⊢
      simp only at hwk hR4 ⊢
      cases b with
      | false =>
        simp only at hwk
        subst hwk
        (first | refine wX ?_ | exact wZ)
        exact ⟨(es4, c4), hR4, rfl, wkE_refl _, wkE_refl _, trivial⟩
      | true =>
        simp only at hwk
        (first | refine wX ?_ | exact wZ)
        refine ⟨(k + 1, (es4, c4), R4), ⟨by omega, hR4, fun q hq => (same_true hg n R3 R4 (xi, yi) hin (by omega) hb).1 q (hsub q hq), hwk⟩, by show x.c.items.length - (k + 1) < x.c.items.length - k; omega, ?_, wkE_refl _, wkE_refl _, wkE_refl _, wkE_refl _, trivial⟩
        (repeat' (first | exact trivial | refine And.intro (by with_reducible rfl) ?_ | (with_reducible exact wkC_refl _) | (with_reducible exact wkCs_refl _) | refine And.intro ?_ ?_))
        all_goals first | rfl | exact av_int (by rw [wrap_i64 (by omega)]; omega)
    · have hkl : k = x.c.items.length := by omega
      subst hkl
      rw [List.drop_of_length_le (by rw [List.length_zip]; omega)] at hwk
      subst hwk
      (first | refine wX ?_ | exact wZ)
      exact ⟨(es3, c3), hR3, rfl, wkE_refl _, wkE_refl _, trivial⟩
end Go.Proofs.YtahjbnfbilkbcaaGreatDoor

/-
  Contract: Equal (program).
-/
namespace Go.Core
theorem valid_in {g : List Cell} (h : ValidP g) : InG g := by
  intro c hc i hi
  have h1 := h.2.1 c hc
  unfold cellD rangeB at h1
  simp only [Bool.and_eq_true] at h1
  have := List.all_eq_true.1 h1.1.1 i hi
  simp only [Bool.and_eq_true, decide_eq_true_eq] at this
  exact this
theorem left_nil (g : List Cell) : left g [] < g.length * g.length + 1 := Nat.lt_succ_of_le (Nat.le_trans (List.length_filter_le _ _) (by rw [allP_len]; exact Nat.le_refl _))
end Go.Core
namespace Go.Proofs.YtahjbnfbilkbcaaGreatDoor
open Go.AX Go.RowKit Go.Core
set_option maxRecDepth 20000

set_option maxHeartbeats 4000000 in
theorem Equal_c {a : Option Addr} (ca : Nat) {l : List CellP} (ha : a = none → l = []) (hs : Small l) (hok : ∀ p ∈ l, CellOk p) (u v : Int) :
    ∀ H, (∀ w, Facts H w → GrF a l w) → ∃ e : Bool, (e = true ↔ AskP (l.map (·.c)) [u, v]) ∧ SpecH Tryz.prog 24 (pvs [.slice a l.length ca, .int .i64 u, .int .i64 v]) H (Ret (.tuple #[.bool (e && sameB (l.map (·.c)) (u, v)), errI e]) H) := by
  intro H hH
  obtain ⟨e, he⟩ : ∃ b : Bool, b = true ↔ AskP (l.map (·.c)) [u, v] := by
    by_cases h : AskP (l.map (·.c)) [u, v]
    · exact ⟨true, fun _ => h, fun _ => rfl⟩
    · exact ⟨false, (fun h => by cases h), fun h2 => absurd h2 h⟩
  refine ⟨e, he, ?_⟩
  refine factC hm Tryz.func24 (by kernel_rfl) rfl rfl ?_ H hH
  (conv => whnf)
  refine BoxN.known [.slice a l.length ca] rfl fun gb => ?_
  ((conv => whnf); (repeat ((first | refine VrN.keep ?_ | refine BoxN.own ?_ | refine RwN.own ?_); (conv => whnf))))
  refine LdN.one (a := some ⟨gb, 0, none⟩) (q := 0) (.slice a l.length ca) rfl (fun w hw => hw.2.1) rfl ?_
  ((conv => whnf); (repeat ((first | refine BoxN.own ?_ | refine VrN.norm (wrap_i64 (by omega)) ?_ | refine VrN.keep ?_ | refine DrawN.calm (by decide +kernel) ?_ | refine Nd.mk (by decide +kernel) ?_ | refine Nd.mk (by omega) ?_ | (refine Nd.mk ?_ ?_; focus ((repeat' (first | exact trivial | exact wkE_refl _ | refine And.intro ?_ ?_)); done)) | refine RdN.intro _ rfl (by rfl) ?_); (conv => whnf))))
  refine RwN.known [.int .i64 u, .int .i64 v] rfl fun rb => ?_
  ((conv => whnf); (repeat ((first | refine BoxN.own ?_ | refine VrN.norm (wrap_i64 (by omega)) ?_ | refine VrN.keep ?_ | refine DrawN.calm (by decide +kernel) ?_ | refine Nd.mk (by decide +kernel) ?_ | refine Nd.mk (by omega) ?_ | (refine Nd.mk ?_ ?_; focus ((repeat' (first | exact trivial | exact wkE_refl _ | refine And.intro ?_ ?_)); done)) | refine RdN.intro _ rfl (by rfl) ?_); (conv => whnf))))
  obtain ⟨t, ht1, ht2⟩ := asked_c a ca l ha hs hok (some ⟨rb, 0, none⟩) 2 [u, v] (fun h => by cases h) (by simp) [.fact (GrF a l), .app 22 1 [.slice a l.length ca] (some ⟨gb, 0, none⟩) 1 1, .app 3 1 [.int .i64 u, .int .i64 v] (some ⟨rb, 0, none⟩) 2 2] (fun w hw => ⟨hw.1, hw.2.2.1⟩)
  obtain rfl : t = e := by rw [Bool.eq_iff_iff, ht1, he]
  refine call1 ht2 ?_
  cases t with
  | false =>
    (first | refine wX ?_ | exact wZ)
    rfl
  | true =>
    have hask := he.1 rfl
    have hin := valid_in hask.1
    (first | refine wXB ?_ | exact wZB)
    refine EffW.mkMap rfl fun mb => ?_
    (first | refine wXB ?_ | exact wZB)
    refine BoxN.known [.map none] rfl fun sb => ?_
    (first | refine wXB ?_ | exact wZB)
    refine EffW.appTo (i := 4) (q := 0) (ys := [.map (some mb)]) [.map (some mb)] 1 rfl rfl rfl rfl rfl rfl rfl (Nat.le_of_ble_eq_true rfl) rfl rfl ?_
    (first | refine wXB ?_ | exact wZB)
    refine BoxN.known [.nilFunc] rfl fun fb => ?_
    (first | refine wXB ?_ | exact wZB)
    refine EffW.appTo (i := 5) (q := 0) (ys := [.func (.func 56) #[] #[.pointer (some ⟨sb, 0, none⟩), .pointer (some ⟨gb, 0, none⟩), .pointer (some ⟨fb, 0, none⟩)]]) [.func (.func 56) #[] #[.pointer (some ⟨sb, 0, none⟩), .pointer (some ⟨gb, 0, none⟩), .pointer (some ⟨fb, 0, none⟩)]] 1 rfl rfl rfl (by simp [opv, nth, plainEv, avCells, vs]; try rfl) rfl rfl rfl (Nat.le_of_ble_eq_true rfl) rfl rfl ?_
    (first | refine wXB ?_ | exact wZB)
    refine LdN.one (a := some ⟨fb, 0, none⟩) (q := 0) (.func (.func 56) #[] #[.pointer (some ⟨sb, 0, none⟩), .pointer (some ⟨gb, 0, none⟩), .pointer (some ⟨fb, 0, none⟩)]) rfl (fun w hw => hw.2.2.2.2.2.1) rfl ?_
    (first | refine wXB ?_ | exact wZB)
    refine SpecH.args (args' := eqA u v sb gb fb) (by simp [eqA, pvs, opvs, opv, nth, plainEv]; try rfl) ?_
    refine SpecH.turn [.fact (GrF a l), .fact (eqF a ca l sb gb fb mb), .dead, .mp mb #[] 0, .dead, .dead] ⟨.inr (.inl rfl), .inr (.inr ⟨_, rfl, fun w hw => ⟨hw.1, hw.2.2.2.1, hw.2.1, hw.2.2.2.2.1⟩⟩), .inl rfl, .inr (.inl rfl), .inl rfl, .inl rfl, trivial⟩ ?_
    have hu := hask.2 u (by simp)
    have hv := hask.2 v (by simp)
    refine callG (same_c a ca l ha hs hok hin sb gb fb mb ((l.map (·.c)).length * (l.map (·.c)).length + 1) [] (#[], 0) (u, v) ⟨hu, hv⟩ (left_nil _) rfl) [3, 1] rfl ⟨rfl, rfl, trivial⟩ rfl fun ⟨es4, c4⟩ _ => ?_
    (first | refine wX ?_ | exact wZ)
    rfl
end Go.Proofs.YtahjbnfbilkbcaaGreatDoor
