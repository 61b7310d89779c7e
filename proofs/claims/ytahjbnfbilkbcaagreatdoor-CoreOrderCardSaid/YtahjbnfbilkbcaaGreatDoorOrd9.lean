/-
  Lemmas (W4 W5 P16 Ax53 Z1 U1 Q1 Q2 O1 O2 K1 Q3 Q4 Q5 U2 U3 W6 U4 Z2 Z3 Z4 Y1 Y2 Z5 Z6 Z7 Z8 Z9 Ax55 M1 M2).
-/
import Derived.Test.YtahjbnfbilkbcaaGreatDoorChecked
import Derived.Tactics
import Derived.Tactics2
import Derived.Defers
import Derived.Laws.Pointers
import Derived.Laws.LoneSync
import Derived.RegionTactic
import Derived.RegionCalls
import Derived.ChangeAlike
import Derived.Lib.ItoaLen
import Derived.Lib.AppendIntMem
import Derived.Test.YtahjbnfbilkbcaaGreatDoorOrd8
/-
  Contract: the writer writes its first cell (program).
-/
namespace Go.Proofs.YtahjbnfbilkbcaaGreatDoor
open Go.AX Go.RowKit Go.Core Go.Scan
set_option maxRecDepth 20000

set_option maxHeartbeats 8000000 in
theorem write_f {a : Option Addr} (ca : Nat) {l : List CellP} {E : World → Prop} {qt : List UInt8 → List UInt8} {it : Int → List UInt8} (V : WEnv a l E qt it) (m : Nat) (hn : m + 1 ≤ 600) (out : List UInt8) (way : List Int) (i j : BSt) (u : Nat) (hi : i.ok out.length) (hj : j.ok way.length) (hu : u < l.length) (hw : way.Nodup) (hr : ∀ x ∈ way, 0 ≤ x ∧ x < (l.length : Int)) (hf : l.length + 2 ≤ m + 1 + way.length) (hM : ¬ 20000 < out.length) :
    SpecH Tryz.prog 51 [.c (.lp 0 0), .c (.v (.int .i64 (u : Int)))] (wH (.slice a l.length ca) (gF a l E) false out i way j) (wR (.slice a l.length ca) (gF a l E) way (writeS 20000 (leafS qt it) (l.map (·.c)) (m + 1) out way u)) := by
  have ih := write_t ca V m
  obtain ⟨p, hp⟩ : ∃ p, l[u]? = some p := ⟨_, List.getElem?_eq_getElem hu⟩
  have hpm := List.mem_of_getElem? hp
  have hsa : a.isSome = true := by
    have := V.ha
    cases a with
    | none => rw [this rfl] at hp; cases hp
    | some b => rfl
  have hat : at_ (l.map (·.c)) (u : Int) = p.c := at_map hp
  have hcd : cellD l.length p.c = true := by
    have := V.val.2.1 p.c (List.mem_map.2 ⟨p, hpm, rfl⟩)
    simpa using this
  have hpo := V.ok p hpm
  have hps := V.sm.2 p hpm
  have hsml := V.sm.1
  have hq4 := V.q p hpm
  have hit := V.i p hpm
  have hql := V.ql
  have hil3 := V.il
  have hsh := V.short
  have htx := cellD_text hcd
  have hk := cellD_kind hcd
  have hwl := way_le hw hr
  obtain ⟨⟨kind, num, text, names, items⟩, na, nc, ia, ic⟩ := p
  simp only at hat hcd hps hq4 hit hk htx
  have hkk : kind = 0 ∨ kind = 1 ∨ kind = 2 ∨ kind = 3 ∨ kind = 4 ∨ kind = 5 ∨ kind = 6 ∨ kind = 7 ∨ kind = 8 := by omega
  rcases hkk with rfl | rfl | rfl | rfl | rfl | rfl | rfl | rfl | rfl
  · -- [110, 105, 108]: the text of the leaf, 0: the kind
    have hwr : writeS 20000 (leafS qt it) (l.map (·.c)) (m + 1) out way u = out ++ ([110, 105, 108]) := by
      unfold writeS
      rw [if_neg hM, hat, if_pos (show isLeaf (Cell.mk 0 num text names items) = true from rfl)]
      rfl
    rw [hwr]
    -- 0: the kind
    refine ownC hm Tryz.func51 (by kernel_rfl) rfl rfl (fun _ _ => wH_ok _ _ _ _ _ _ _) (fun _ _ => Nat.le_refl _) ?_
    (first | refine wX ?_ | exact wZ)
    refine callG (Len_w _ _ way j false out i) [0, 1, 2, 3] rfl ⟨rfl, rfl, rfl, rfl, trivial⟩ rfl fun _ _ => ?_
    (first | refine wX ?_ | exact wZ)
    refine brd_dec (fun h => absurd h (by omega)) (fun _ => ?_)
    (first | refine wX ?_ | exact wZ)
    refine Nd.mk ⟨hsa, by omega, by omega⟩ ?_
    (first | refine wX ?_ | exact wZ)
    refine LdN.agg [.int .i64 0, .int .i64 num, .string (bs text), .slice na names.length nc, .slice ia items.length ic] rfl (fun w hw => hw.2.2.1.1.1) rfl (fun k hk => by rw [Int.toNat_natCast]; exact grC_get l u k hk hp) ?_
    (first | refine wXD ?_ | exact wZD)
    -- [110, 105, 108]: the text of the leaf
    refine callG (WriteString_w _ _ way j false out ([110, 105, 108]) i hi (by first | omega | (simp; omega))) [0, 1, 2, 3] rfl ⟨rfl, rfl, rfl, rfl, trivial⟩ rfl fun i2 hi2 => ?_
    (first | refine wX ?_ | exact wZ)
    exact ⟨(i2, j), ⟨hi2, hj⟩, rfl, by (repeat' (first | exact trivial | exact wkE_refl _ | refine And.intro ?_ ?_))⟩
  · -- [116, 114, 117, 101]: the text of the leaf, 1: the kind
    have hwr : writeS 20000 (leafS qt it) (l.map (·.c)) (m + 1) out way u = out ++ ([116, 114, 117, 101]) := by
      unfold writeS
      rw [if_neg hM, hat, if_pos (show isLeaf (Cell.mk 1 num text names items) = true from rfl)]
      rfl
    rw [hwr]
    -- 1: the kind
    refine ownC hm Tryz.func51 (by kernel_rfl) rfl rfl (fun _ _ => wH_ok _ _ _ _ _ _ _) (fun _ _ => Nat.le_refl _) ?_
    (first | refine wX ?_ | exact wZ)
    refine callG (Len_w _ _ way j false out i) [0, 1, 2, 3] rfl ⟨rfl, rfl, rfl, rfl, trivial⟩ rfl fun _ _ => ?_
    (first | refine wX ?_ | exact wZ)
    refine brd_dec (fun h => absurd h (by omega)) (fun _ => ?_)
    (first | refine wX ?_ | exact wZ)
    refine Nd.mk ⟨hsa, by omega, by omega⟩ ?_
    (first | refine wX ?_ | exact wZ)
    refine LdN.agg [.int .i64 1, .int .i64 num, .string (bs text), .slice na names.length nc, .slice ia items.length ic] rfl (fun w hw => hw.2.2.1.1.1) rfl (fun k hk => by rw [Int.toNat_natCast]; exact grC_get l u k hk hp) ?_
    (first | refine wXD ?_ | exact wZD)
    -- true: which, [116, 114, 117, 101]: the text
    refine DrawN.planQ [0, 3] [1, 2, 4, 5, 6] [(7, 0)] (by decide +kernel) ?_
    (first | refine wX ?_ | exact wZ)
    refine callQ (FormatBool_c true ([116, 114, 117, 101]) (by decide) _) ?_
    (first | refine wX ?_ | exact wZ)
    -- [116, 114, 117, 101]: the text of the leaf
    refine callG (WriteString_w _ _ way j false out ([116, 114, 117, 101]) i hi (by first | omega | (simp; omega))) [0, 1, 2, 3] rfl ⟨rfl, rfl, rfl, rfl, trivial⟩ rfl fun i2 hi2 => ?_
    (first | refine wX ?_ | exact wZ)
    exact ⟨(i2, j), ⟨hi2, hj⟩, rfl, by (repeat' (first | exact trivial | exact wkE_refl _ | refine And.intro ?_ ?_))⟩
  · -- [102, 97, 108, 115, 101]: the text of the leaf, 2: the kind
    have hwr : writeS 20000 (leafS qt it) (l.map (·.c)) (m + 1) out way u = out ++ ([102, 97, 108, 115, 101]) := by
      unfold writeS
      rw [if_neg hM, hat, if_pos (show isLeaf (Cell.mk 2 num text names items) = true from rfl)]
      rfl
    rw [hwr]
    -- 2: the kind
    refine ownC hm Tryz.func51 (by kernel_rfl) rfl rfl (fun _ _ => wH_ok _ _ _ _ _ _ _) (fun _ _ => Nat.le_refl _) ?_
    (first | refine wX ?_ | exact wZ)
    refine callG (Len_w _ _ way j false out i) [0, 1, 2, 3] rfl ⟨rfl, rfl, rfl, rfl, trivial⟩ rfl fun _ _ => ?_
    (first | refine wX ?_ | exact wZ)
    refine brd_dec (fun h => absurd h (by omega)) (fun _ => ?_)
    (first | refine wX ?_ | exact wZ)
    refine Nd.mk ⟨hsa, by omega, by omega⟩ ?_
    (first | refine wX ?_ | exact wZ)
    refine LdN.agg [.int .i64 2, .int .i64 num, .string (bs text), .slice na names.length nc, .slice ia items.length ic] rfl (fun w hw => hw.2.2.1.1.1) rfl (fun k hk => by rw [Int.toNat_natCast]; exact grC_get l u k hk hp) ?_
    (first | refine wXD ?_ | exact wZD)
    -- false: which, [102, 97, 108, 115, 101]: the text
    refine DrawN.planQ [0, 3] [1, 2, 4, 5, 6] [(7, 0)] (by decide +kernel) ?_
    (first | refine wX ?_ | exact wZ)
    refine callQ (FormatBool_c false ([102, 97, 108, 115, 101]) (by decide) _) ?_
    (first | refine wX ?_ | exact wZ)
    -- [102, 97, 108, 115, 101]: the text of the leaf
    refine callG (WriteString_w _ _ way j false out ([102, 97, 108, 115, 101]) i hi (by first | omega | (simp; omega))) [0, 1, 2, 3] rfl ⟨rfl, rfl, rfl, rfl, trivial⟩ rfl fun i2 hi2 => ?_
    (first | refine wX ?_ | exact wZ)
    exact ⟨(i2, j), ⟨hi2, hj⟩, rfl, by (repeat' (first | exact trivial | exact wkE_refl _ | refine And.intro ?_ ?_))⟩
  · -- it num: the text of the leaf, 3: the kind
    have hwr : writeS 20000 (leafS qt it) (l.map (·.c)) (m + 1) out way u = out ++ (it num) := by
      unfold writeS
      rw [if_neg hM, hat, if_pos (show isLeaf (Cell.mk 3 num text names items) = true from rfl)]
      rfl
    rw [hwr]
    -- 3: the kind
    refine ownC hm Tryz.func51 (by kernel_rfl) rfl rfl (fun _ _ => wH_ok _ _ _ _ _ _ _) (fun _ _ => Nat.le_refl _) ?_
    (first | refine wX ?_ | exact wZ)
    refine callG (Len_w _ _ way j false out i) [0, 1, 2, 3] rfl ⟨rfl, rfl, rfl, rfl, trivial⟩ rfl fun _ _ => ?_
    (first | refine wX ?_ | exact wZ)
    refine brd_dec (fun h => absurd h (by omega)) (fun _ => ?_)
    (first | refine wX ?_ | exact wZ)
    refine Nd.mk ⟨hsa, by omega, by omega⟩ ?_
    (first | refine wX ?_ | exact wZ)
    refine LdN.agg [.int .i64 3, .int .i64 num, .string (bs text), .slice na names.length nc, .slice ia items.length ic] rfl (fun w hw => hw.2.2.1.1.1) rfl (fun k hk => by rw [Int.toNat_natCast]; exact grC_get l u k hk hp) ?_
    (first | refine wXD ?_ | exact wZD)
    refine DrawN.planQ [0, 3] [1, 2, 4, 5] [(6, 0)] (by decide +kernel) ?_
    (first | refine wX ?_ | exact wZ)
    refine callQ (hit rfl _ (fun w hw => hw.2.2.1.2)) ?_
    (first | refine wX ?_ | exact wZ)
    have := hil3 num
    -- it num: the text of the leaf
    refine callG (WriteString_w _ _ way j false out (it num) i hi (by first | omega | (simp; omega))) [0, 1, 2, 3] rfl ⟨rfl, rfl, rfl, rfl, trivial⟩ rfl fun i2 hi2 => ?_
    (first | refine wX ?_ | exact wZ)
    exact ⟨(i2, j), ⟨hi2, hj⟩, rfl, by (repeat' (first | exact trivial | exact wkE_refl _ | refine And.intro ?_ ?_))⟩
  · -- [34] ++ qt text ++ [34]: the text of the leaf, 4: the kind
    have hwr : writeS 20000 (leafS qt it) (l.map (·.c)) (m + 1) out way u = out ++ ([34] ++ qt text ++ [34]) := by
      unfold writeS
      rw [if_neg hM, hat, if_pos (show isLeaf (Cell.mk 4 num text names items) = true from rfl)]
      rfl
    rw [hwr]
    -- 4: the kind
    refine ownC hm Tryz.func51 (by kernel_rfl) rfl rfl (fun _ _ => wH_ok _ _ _ _ _ _ _) (fun _ _ => Nat.le_refl _) ?_
    (first | refine wX ?_ | exact wZ)
    refine callG (Len_w _ _ way j false out i) [0, 1, 2, 3] rfl ⟨rfl, rfl, rfl, rfl, trivial⟩ rfl fun _ _ => ?_
    (first | refine wX ?_ | exact wZ)
    refine brd_dec (fun h => absurd h (by omega)) (fun _ => ?_)
    (first | refine wX ?_ | exact wZ)
    refine Nd.mk ⟨hsa, by omega, by omega⟩ ?_
    (first | refine wX ?_ | exact wZ)
    refine LdN.agg [.int .i64 4, .int .i64 num, .string (bs text), .slice na names.length nc, .slice ia items.length ic] rfl (fun w hw => hw.2.2.1.1.1) rfl (fun k hk => by rw [Int.toNat_natCast]; exact grC_get l u k hk hp) ?_
    (first | refine wXD ?_ | exact wZD)
    refine DrawN.planQ [0, 3] [1, 2, 4, 5, 6, 7] [(8, 0)] (by decide +kernel) ?_
    (first | refine wX ?_ | exact wZ)
    refine callQ (hq4 rfl _) ?_
    (first | refine wX ?_ | exact wZ)
    have hq1 := hql text
    refine Nd.mk (by show 1 + (bs (qt text)).size < _; rw [bs_size]; omega) ?_
    (first | refine wX ?_ | exact wZ)
    rw [show (({ data := #[34] } : ByteArray) ++ bs (qt text)) = bs ([34] ++ qt text) by rw [← bs_app]; rfl]
    refine Nd.mk (by show (bs ([34] ++ qt text)).size + 1 < _; rw [bs_size]; simp; omega) ?_
    rw [show (bs ([34] ++ qt text) ++ ({ data := #[34] } : ByteArray)) = bs ([34] ++ qt text ++ [34]) by rw [← bs_app]; rfl]
    (first | refine wX ?_ | exact wZ)
    -- [34] ++ qt text ++ [34]: the text of the leaf
    refine callG (WriteString_w _ _ way j false out ([34] ++ qt text ++ [34]) i hi (by first | omega | (simp; omega))) [0, 1, 2, 3] rfl ⟨rfl, rfl, rfl, rfl, trivial⟩ rfl fun i2 hi2 => ?_
    (first | refine wX ?_ | exact wZ)
    exact ⟨(i2, j), ⟨hi2, hj⟩, rfl, by (repeat' (first | exact trivial | exact wkE_refl _ | refine And.intro ?_ ?_))⟩
  · -- [58] ++ text: the text of the leaf, 5: the kind
    have hwr : writeS 20000 (leafS qt it) (l.map (·.c)) (m + 1) out way u = out ++ ([58] ++ text) := by
      unfold writeS
      rw [if_neg hM, hat, if_pos (show isLeaf (Cell.mk 5 num text names items) = true from rfl)]
      rfl
    rw [hwr]
    -- 5: the kind
    refine ownC hm Tryz.func51 (by kernel_rfl) rfl rfl (fun _ _ => wH_ok _ _ _ _ _ _ _) (fun _ _ => Nat.le_refl _) ?_
    (first | refine wX ?_ | exact wZ)
    refine callG (Len_w _ _ way j false out i) [0, 1, 2, 3] rfl ⟨rfl, rfl, rfl, rfl, trivial⟩ rfl fun _ _ => ?_
    (first | refine wX ?_ | exact wZ)
    refine brd_dec (fun h => absurd h (by omega)) (fun _ => ?_)
    (first | refine wX ?_ | exact wZ)
    refine Nd.mk ⟨hsa, by omega, by omega⟩ ?_
    (first | refine wX ?_ | exact wZ)
    refine LdN.agg [.int .i64 5, .int .i64 num, .string (bs text), .slice na names.length nc, .slice ia items.length ic] rfl (fun w hw => hw.2.2.1.1.1) rfl (fun k hk => by rw [Int.toNat_natCast]; exact grC_get l u k hk hp) ?_
    (first | refine wXD ?_ | exact wZD)
    refine DrawN.planQ [0, 3] [1, 2, 4, 5] [(6, 0)] (by decide +kernel) ?_
    (first | refine wX ?_ | exact wZ)
    refine Nd.mk (by show 1 + (bs text).size < _; rw [bs_size]; omega) ?_
    rw [show (({ data := #[58] } : ByteArray) ++ bs text) = bs ([58] ++ text) by rw [← bs_app]; rfl]
    (first | refine wX ?_ | exact wZ)
    -- [58] ++ text: the text of the leaf
    refine callG (WriteString_w _ _ way j false out ([58] ++ text) i hi (by first | omega | (simp; omega))) [0, 1, 2, 3] rfl ⟨rfl, rfl, rfl, rfl, trivial⟩ rfl fun i2 hi2 => ?_
    (first | refine wX ?_ | exact wZ)
    exact ⟨(i2, j), ⟨hi2, hj⟩, rfl, by (repeat' (first | exact trivial | exact wkE_refl _ | refine And.intro ?_ ?_))⟩
  · -- 6: the kind
    rw [writeS_in hM hat (fun h => absurd (of_decide_eq_true h) (by show ¬ (6 : Int) ≤ 5; decide))]
    -- 6: the kind
    refine ownC hm Tryz.func51 (by kernel_rfl) rfl rfl (fun _ _ => wH_ok _ _ _ _ _ _ _) (fun _ _ => Nat.le_refl _) ?_
    (first | refine wX ?_ | exact wZ)
    refine callG (Len_w _ _ way j false out i) [0, 1, 2, 3] rfl ⟨rfl, rfl, rfl, rfl, trivial⟩ rfl fun _ _ => ?_
    (first | refine wX ?_ | exact wZ)
    refine brd_dec (fun h => absurd h (by omega)) (fun _ => ?_)
    (first | refine wX ?_ | exact wZ)
    refine Nd.mk ⟨hsa, by omega, by omega⟩ ?_
    (first | refine wX ?_ | exact wZ)
    refine LdN.agg [.int .i64 6, .int .i64 num, .string (bs text), .slice na names.length nc, .slice ia items.length ic] rfl (fun w hw => hw.2.2.1.1.1) rfl (fun k hk => by rw [Int.toNat_natCast]; exact grC_get l u k hk hp) ?_
    (first | refine wXD ?_ | exact wZD)
    refine spec_of_exec hm Tryz.func99 (by kernel_rfl) rfl rfl ?_
    (first | refine wXD ?_ | exact wZD)
    refine SpecH.args (args' := pvs [.slice (at0 j.ob) way.length j.cap, .int .i64 (u : Int)]) (by simp [pvs, opvs, opv, nth]; try rfl) ?_
    refine call1 (contains_c j.ob j.cap way u (fun h => List.eq_nil_of_length_eq_zero (hj.1 h).1) (by omega) _ (fun w hw => hw.2.1)) ?_
    (first | refine wXD ?_ | exact wZD)
    try refine Nd.mk ⟨Nat.le_refl 1, rfl, rfl⟩ ?_
    (conv => whnf)
    refine AppN.grow 2 (iC way) [.int .i64 (u : Int)] rfl rfl ⟨Nat.le_refl 1, ⟨by show (way.length + 1) * 8 ≤ _; omega, by omega⟩, Nat.one_ne_zero⟩ fun wb wc hwc _ => ?_
    obtain ⟨way2, hway2⟩ : ∃ w2, w2 = way ++ [(u : Int)] := ⟨_, rfl⟩
    have hcl : iC way ++ [.int .i64 (u : Int)] = iC way2 := by rw [hway2]; simp [iC]
    have hll : way.length + 1 = way2.length := by rw [hway2]; simp
    rw [hcl, hll]
    (first | refine wXD ?_ | exact wZD)
    -- [91]: what is written, i2: the place behind
    refine callG (WriteString_w _ _ way2 ⟨some wb, wc⟩ false out ([91]) i hi (by first | omega | (simp; omega))) [0, 1, 2, 3] rfl ⟨rfl, rfl, rfl, rfl, trivial⟩ rfl fun i2 hi2 => ?_
    (first | refine wXD ?_ | exact wZD)
    -- [91]: front, [46, 46, 46]: mark, [93]: back
    cases hun : decide ((u : Int) ∈ way) with
    | true =>
      rw [if_pos (of_decide_eq_true hun)]
      (first | refine wXD ?_ | exact wZD)
      -- out ++ ([91]): what is there, [46, 46, 46]: what is written, i2: the Builder's place, hi2: its word, i3: the place behind
      refine callG (WriteString_w _ _ way2 ⟨some wb, wc⟩ true (out ++ ([91])) ([46, 46, 46]) i2 hi2 (by first | omega | (simp; omega))) [0, 1, 2, 3] rfl ⟨rfl, rfl, rfl, rfl, trivial⟩ rfl fun i3 hi3 => ?_
      (first | refine wXD ?_ | exact wZD)
      -- out ++ ([91]) ++ ([46, 46, 46]): what is there, [93]: what is written, i3: the Builder's place, hi3: its word, i4: the place behind
      refine callG (WriteString_w _ _ way2 ⟨some wb, wc⟩ true (out ++ ([91]) ++ ([46, 46, 46])) ([93]) i3 hi3 (by first | omega | (simp; omega))) [0, 1, 2, 3] rfl ⟨rfl, rfl, rfl, rfl, trivial⟩ rfl fun i4 hi4 => ?_
      (first | refine wXD ?_ | exact wZD)
      -- i4: the Builder's place
      refine DrawN.plan [0, 1, 5] [(2, 1), (3, 1), (4, 1), (6, 1), (7, 1), (8, 1), (9, 1), (10, 1), (11, 1), (12, 1), (13, 1)] [(14, 0)] (by decide +kernel) ?_
      (first | refine wXD ?_ | exact wZD)
      rw [show IntKind.i64.wrap ((way2.length : Int) - 1) = (way.length : Int) by rw [wrap_i64 (by omega)]; omega]
      refine ReadW.slc_hi rfl (by kernel_rfl) rfl rfl (by show (0 : Int) ≤ (way.length : Int) ∧ (way.length : Int) ≤ (wc : Int); omega) ?_
      rw [Int.toNat_natCast]
      (first | refine wXD ?_ | exact wZD)
      refine ⟨(i4, ⟨some wb, wc⟩), ⟨hi4, (fun h => by cases h), by show way.length ≤ wc; omega, fun h => by have : wc = 0 := h; omega⟩, rfl, ⟨rfl, rfl, rfl, rfl, rfl, trivial⟩, wkE_refl _, .inr (.inr ⟨rfl, rfl, ?_, rfl, by omega, rfl⟩), wkE_refl _, trivial⟩
      rw [hway2, Nat.mul_one]
      simp [iC]
    | false =>
    rw [if_neg (of_decide_eq_false hun)]
    (first | refine wXD ?_ | exact wZD)
    -- 6: the kind, [91]: the front
    rw [← hway2]
    have hnd2 : way2.Nodup := by
      rw [hway2]
      exact List.nodup_append.2 ⟨hw, by simp, fun x hx y hy => by
        rw [List.mem_singleton.1 hy]
        intro e
        subst e
        exact of_decide_eq_false hun hx⟩
    have hr2 : ∀ x ∈ way2, 0 ≤ x ∧ x < (l.length : Int) := fun x hx => by
      rw [hway2] at hx
      rcases List.mem_append.1 hx with hx | hx
      · exact hr x hx
      · rw [List.mem_singleton.1 hx]; omega
    obtain ⟨ff, hff⟩ : ∃ ff, ff = fun o k => writeS 20000 (leafS qt it) (l.map (·.c)) m o way2 k := ⟨_, rfl⟩
    rw [← hff]
    have hfx : ∀ o x, ff o x = writeS 20000 (leafS qt it) (l.map (·.c)) m o way2 x := fun o x => by rw [hff]
    have hpre : ∀ i, (preT (Cell.mk 6 num text names items) i).length ≤ 50 := fun i => by
      have := pre_le hsh (u : Int) i
      rw [hat] at this
      exact this
    have hfold : ∀ k, (foldT ff (preT (Cell.mk 6 num text names items)) 0 (items.take k) (out ++ ([91]))).length ≤ 130000000 := fun k => by
      have hfl : (out ++ ([91])).length ≤ out.length + 2002 := by simp; try omega
      have := foldT_len (M := 20000) (f := ff) (pre := preT (Cell.mk 6 num text names items)) (p := 50) (X := 20000 + m * 200000) hpre (by omega) (fun o k ho => by rw [hff]; exact write_same m o _ k ho) (fun o k ho => by rw [hff]; have := write_len (M := 20000) hsh m o way2 k; show (writeS _ _ _ _ _ _ _).length ≤ _; omega) (items.take k) 0 (out ++ ([91])) (22002 + m * 200000) (by omega) (by omega)
      rw [List.length_take] at this
      omega
    refine spec_of_exec hm Tryz.func122 (by kernel_rfl) rfl rfl ?_
    (first | refine wXD ?_ | exact wZD)
    -- 6: the kind, [91]: the front
    refine LoopN.intro (Nat × BSt × BSt) (fun ⟨k, i, j⟩ => k ≤ items.length ∧ i.ok (foldT ff (preT (Cell.mk 6 num text names items)) 0 (items.take k) (out ++ ([91]))).length ∧ j.ok way2.length) (fun ⟨k, _, _⟩ => mkS Tryz.f122.ntmps 0 [(0, .c (.lp 0 0)), (3, .c (.lp 7 0)), (7, .c (.v (.slice ia items.length ic))), (8, .c (.v (.int .i64 (items.length : Int)))), (9, .c (.v (.int .i64 (k : Int))))])
      (fun ⟨k, i, j⟩ => wH (.slice a l.length ca) (gF a l E) true (foldT ff (preT (Cell.mk 6 num text names items)) 0 (items.take k) (out ++ ([91]))) i way2 j ++ [.dead, .dead, .dead, .blk 42 [.v (.int .i64 6), .v (.int .i64 num), .v (.string (bs text)), .v (.slice na names.length nc), .v (.slice ia items.length ic)]]) (fun ⟨k, _, _⟩ => items.length - k) [] rfl (fun ⟨_, _, _⟩ => rfl) (fun ⟨_, _, _⟩ => rfl) (fun ⟨_, _, _⟩ _ => okHB_eq rfl) ?_ ?_
    · refine ⟨(0, i2, ⟨some wb, wc⟩), ⟨Nat.zero_le _, hi2, (fun h => by cases h), by show way2.length ≤ wc; omega, fun h => by have : wc = 0 := h; omega⟩, ?_, wkE_refl _, wkE_refl _, wkE_refl _, wkE_refl _, trivial, trivial, trivial, wkE_refl _, trivial⟩
      (repeat' (first | exact trivial | refine And.intro (by with_reducible rfl) ?_ | (with_reducible exact wkC_refl _) | (with_reducible exact wkCs_refl _) | refine And.intro ?_ ?_))
      all_goals rfl
    rintro ⟨k, i3, j3⟩ ⟨hk3, hi3, hj3⟩
    (first | refine wXD ?_ | exact wZD)
    refine brd_dec (fun h1 => ?_) (fun h1 => ?_)
    · obtain ⟨x, hx⟩ : ∃ x, items[k]? = some x := ⟨_, List.getElem?_eq_getElem (by omega)⟩
      have hxin := cellD_in hcd x (List.mem_of_getElem? hx)
      obtain ⟨xn, rfl⟩ : ∃ xn : Nat, x = (xn : Int) := ⟨x.toNat, by omega⟩
      have hx1 : xn < l.length := by omega
      have hsi : ia.isSome = true := by
        have := hpo.ia
        cases ia with
        | none =>
          have h0 : items = [] := this rfl
          rw [h0] at hx
          cases hx
        | some b => rfl
      (first | refine wXD ?_ | exact wZD)
      refine Nd.mk ⟨hsi, by omega, by omega⟩ ?_
      (first | refine wXD ?_ | exact wZD)
      refine LdN.one (.int .i64 (xn : Int)) rfl (fun w hw => (hw.2.2.1.1.2 _ hpm).2) (by rw [Int.toNat_natCast]; show (iC items)[k * 1]? = _; rw [Nat.mul_one]; exact iC_get hx) ?_
      (first | refine wXD ?_ | exact wZD)
      refine brd_dec (fun hk0 => ?_) (fun hk0 => ?_)
      · (first | refine wXD ?_ | exact wZD)
        -- 6: the kind, [91]: the front, [44, 32]: what stands ahead, by rw [preT_6 rfl, if_pos (by omega)]: why
        refine callG (WriteString_w _ _ way2 j3 true (foldT ff (preT (Cell.mk 6 num text names items)) 0 (items.take k) (out ++ ([91]))) ([44, 32]) i3 hi3 (by have := hfold k; simp only [List.length_cons, List.length_nil]; omega)) [0, 1, 2, 3] rfl ⟨rfl, rfl, rfl, rfl, trivial⟩ rfl fun i6 hi6 => ?_
        (first | refine wXD ?_ | exact wZD)
        -- an item is written, and the round is over; [44, 32]: what stands ahead of it, i6: the Builder's place, by rw [preT_6 rfl, if_pos (by omega)]: the proof that it stands ahead
        refine callG (ih (by omega) (foldT ff (preT (Cell.mk 6 num text names items)) 0 (items.take k) (out ++ ([91])) ++ ([44, 32])) way2 i6 j3 xn (hi6) hj3 hx1 hnd2 hr2 (by omega) (by have := hfold k; simp only [List.length_append, List.length_cons, List.length_nil]; omega)) [0, 1, 2, 3] rfl ⟨rfl, rfl, rfl, rfl, trivial⟩ rfl fun st hst => ?_
        obtain ⟨i5, j5⟩ := st
        obtain ⟨hi5, hj5⟩ := hst
        simp only at hi5 hj5
        (first | refine wXD ?_ | exact wZD)
        have hfs := foldT_take (f := ff) (pre := preT (Cell.mk 6 num text names items)) hx (out ++ ([91]))
        rw [show preT (Cell.mk 6 num text names items) k = [44, 32] from by rw [preT_6 rfl, if_pos (by omega)], hfx] at hfs
        refine ⟨(k + 1, i5, j5), ⟨by omega, by rw [hfs]; exact hi5, hj5⟩, by show items.length - (k + 1) < items.length - k; omega, ?_, ?_⟩
        · (repeat' (first | exact trivial | refine And.intro (by with_reducible rfl) ?_ | (with_reducible exact wkC_refl _) | (with_reducible exact wkCs_refl _) | refine And.intro ?_ ?_))
          all_goals first | rfl | exact av_int (by rw [wrap_i64 (by omega)]; omega) | exact av_int (by omega)
        · show wkH _ (wH _ _ true (foldT ff _ 0 (items.take (k + 1)) _) _ _ _ ++ _)
          rw [hfs]
          exact ⟨wkE_refl _, wkE_refl _, wkE_refl _, wkE_refl _, trivial, trivial, trivial, wkE_refl _, trivial⟩
      · (first | refine wXD ?_ | exact wZD)
        -- 6: the kind, [91]: the front, by rw [preT_6 rfl, if_neg (by omega)]: why
        rw [show foldT ff (preT (Cell.mk 6 num text names items)) 0 (items.take k) (out ++ ([91])) = foldT ff (preT (Cell.mk 6 num text names items)) 0 (items.take k) (out ++ ([91])) ++ [] from (List.append_nil _).symm]
        -- an item is written, and the round is over; []: what stands ahead of it, i3: the Builder's place, by rw [preT_6 rfl, if_neg (by omega)]: the proof that it stands ahead
        refine callG (ih (by omega) (foldT ff (preT (Cell.mk 6 num text names items)) 0 (items.take k) (out ++ ([91])) ++ ([])) way2 i3 j3 xn (by rw [List.append_nil]; exact hi3) hj3 hx1 hnd2 hr2 (by omega) (by have := hfold k; simp only [List.length_append, List.length_cons, List.length_nil]; omega)) [0, 1, 2, 3] rfl ⟨rfl, rfl, rfl, rfl, trivial⟩ rfl fun st hst => ?_
        obtain ⟨i5, j5⟩ := st
        obtain ⟨hi5, hj5⟩ := hst
        simp only at hi5 hj5
        (first | refine wXD ?_ | exact wZD)
        have hfs := foldT_take (f := ff) (pre := preT (Cell.mk 6 num text names items)) hx (out ++ ([91]))
        rw [show preT (Cell.mk 6 num text names items) k = [] from by rw [preT_6 rfl, if_neg (by omega)], hfx] at hfs
        refine ⟨(k + 1, i5, j5), ⟨by omega, by rw [hfs]; exact hi5, hj5⟩, by show items.length - (k + 1) < items.length - k; omega, ?_, ?_⟩
        · (repeat' (first | exact trivial | refine And.intro (by with_reducible rfl) ?_ | (with_reducible exact wkC_refl _) | (with_reducible exact wkCs_refl _) | refine And.intro ?_ ?_))
          all_goals first | rfl | exact av_int (by rw [wrap_i64 (by omega)]; omega) | exact av_int (by omega)
        · show wkH _ (wH _ _ true (foldT ff _ 0 (items.take (k + 1)) _) _ _ _ ++ _)
          rw [hfs]
          exact ⟨wkE_refl _, wkE_refl _, wkE_refl _, wkE_refl _, trivial, trivial, trivial, wkE_refl _, trivial⟩
    · have hin : k = items.length := by omega
      subst hin
      rw [List.take_length] at hi3 ⊢
      have hfe := hfold items.length
      rw [List.take_length] at hfe
      obtain ⟨wb, wc⟩ := j3
      cases wb with
      | none =>
        have := (hj3.1 rfl).1
        omega
      | some wb =>
      have hwc3 : way2.length ≤ wc := hj3.2.1
      (first | refine wXD ?_ | exact wZD)
      refine callG (WriteString_w _ _ way2 ⟨some wb, wc⟩ true (foldT ff (preT (Cell.mk 6 num text names items)) 0 items (out ++ ([91]))) ([93]) i3 hi3 (by simp only [List.length_cons, List.length_nil]; omega)) [0, 1, 2, 3] rfl ⟨rfl, rfl, rfl, rfl, trivial⟩ rfl fun i7 hi7 => ?_
      (first | refine wXD ?_ | exact wZD)
      -- i7: the Builder's place
      refine DrawN.plan [0, 1, 5] [(2, 1), (3, 1), (4, 1), (6, 1), (7, 1), (8, 1), (9, 1), (10, 1), (11, 1), (12, 1), (13, 1)] [(14, 0)] (by decide +kernel) ?_
      (first | refine wXD ?_ | exact wZD)
      rw [show IntKind.i64.wrap ((way2.length : Int) - 1) = (way.length : Int) by rw [wrap_i64 (by omega)]; omega]
      refine ReadW.slc_hi rfl (by kernel_rfl) rfl rfl (by show (0 : Int) ≤ (way.length : Int) ∧ (way.length : Int) ≤ (wc : Int); omega) ?_
      rw [Int.toNat_natCast]
      (first | refine wXD ?_ | exact wZD)
      refine ⟨(i7, ⟨some wb, wc⟩), ⟨hi7, (fun h => by cases h), by show way.length ≤ wc; omega, fun h => by have : wc = 0 := h; omega⟩, rfl, ⟨rfl, rfl, rfl, rfl, rfl, trivial⟩, wkE_refl _, .inr (.inr ⟨rfl, rfl, ?_, rfl, by omega, rfl⟩), wkE_refl _, trivial⟩
      rw [hway2, Nat.mul_one]
      simp [iC]
  · -- 7: the kind
    rw [writeS_in hM hat (fun h => absurd (of_decide_eq_true h) (by show ¬ (7 : Int) ≤ 5; decide))]
    -- 7: the kind
    refine ownC hm Tryz.func51 (by kernel_rfl) rfl rfl (fun _ _ => wH_ok _ _ _ _ _ _ _) (fun _ _ => Nat.le_refl _) ?_
    (first | refine wX ?_ | exact wZ)
    refine callG (Len_w _ _ way j false out i) [0, 1, 2, 3] rfl ⟨rfl, rfl, rfl, rfl, trivial⟩ rfl fun _ _ => ?_
    (first | refine wX ?_ | exact wZ)
    refine brd_dec (fun h => absurd h (by omega)) (fun _ => ?_)
    (first | refine wX ?_ | exact wZ)
    refine Nd.mk ⟨hsa, by omega, by omega⟩ ?_
    (first | refine wX ?_ | exact wZ)
    refine LdN.agg [.int .i64 7, .int .i64 num, .string (bs text), .slice na names.length nc, .slice ia items.length ic] rfl (fun w hw => hw.2.2.1.1.1) rfl (fun k hk => by rw [Int.toNat_natCast]; exact grC_get l u k hk hp) ?_
    (first | refine wXD ?_ | exact wZD)
    refine spec_of_exec hm Tryz.func99 (by kernel_rfl) rfl rfl ?_
    (first | refine wXD ?_ | exact wZD)
    refine SpecH.args (args' := pvs [.slice (at0 j.ob) way.length j.cap, .int .i64 (u : Int)]) (by simp [pvs, opvs, opv, nth]; try rfl) ?_
    refine call1 (contains_c j.ob j.cap way u (fun h => List.eq_nil_of_length_eq_zero (hj.1 h).1) (by omega) _ (fun w hw => hw.2.1)) ?_
    (first | refine wXD ?_ | exact wZD)
    try refine Nd.mk ⟨Nat.le_refl 1, rfl, rfl⟩ ?_
    (conv => whnf)
    refine AppN.grow 2 (iC way) [.int .i64 (u : Int)] rfl rfl ⟨Nat.le_refl 1, ⟨by show (way.length + 1) * 8 ≤ _; omega, by omega⟩, Nat.one_ne_zero⟩ fun wb wc hwc _ => ?_
    obtain ⟨way2, hway2⟩ : ∃ w2, w2 = way ++ [(u : Int)] := ⟨_, rfl⟩
    have hcl : iC way ++ [.int .i64 (u : Int)] = iC way2 := by rw [hway2]; simp [iC]
    have hll : way.length + 1 = way2.length := by rw [hway2]; simp
    rw [hcl, hll]
    (first | refine wXD ?_ | exact wZD)
    -- [123]: what is written, i2: the place behind
    refine callG (WriteString_w _ _ way2 ⟨some wb, wc⟩ false out ([123]) i hi (by first | omega | (simp; omega))) [0, 1, 2, 3] rfl ⟨rfl, rfl, rfl, rfl, trivial⟩ rfl fun i2 hi2 => ?_
    (first | refine wXD ?_ | exact wZD)
    -- [123]: front, [46, 46, 46]: mark, [125]: back
    cases hun : decide ((u : Int) ∈ way) with
    | true =>
      rw [if_pos (of_decide_eq_true hun)]
      (first | refine wXD ?_ | exact wZD)
      -- out ++ ([123]): what is there, [46, 46, 46]: what is written, i2: the Builder's place, hi2: its word, i3: the place behind
      refine callG (WriteString_w _ _ way2 ⟨some wb, wc⟩ true (out ++ ([123])) ([46, 46, 46]) i2 hi2 (by first | omega | (simp; omega))) [0, 1, 2, 3] rfl ⟨rfl, rfl, rfl, rfl, trivial⟩ rfl fun i3 hi3 => ?_
      (first | refine wXD ?_ | exact wZD)
      -- out ++ ([123]) ++ ([46, 46, 46]): what is there, [125]: what is written, i3: the Builder's place, hi3: its word, i4: the place behind
      refine callG (WriteString_w _ _ way2 ⟨some wb, wc⟩ true (out ++ ([123]) ++ ([46, 46, 46])) ([125]) i3 hi3 (by first | omega | (simp; omega))) [0, 1, 2, 3] rfl ⟨rfl, rfl, rfl, rfl, trivial⟩ rfl fun i4 hi4 => ?_
      (first | refine wXD ?_ | exact wZD)
      -- i4: the Builder's place
      refine DrawN.plan [0, 1, 5] [(2, 1), (3, 1), (4, 1), (6, 1), (7, 1), (8, 1), (9, 1), (10, 1), (11, 1), (12, 1), (13, 1)] [(14, 0)] (by decide +kernel) ?_
      (first | refine wXD ?_ | exact wZD)
      rw [show IntKind.i64.wrap ((way2.length : Int) - 1) = (way.length : Int) by rw [wrap_i64 (by omega)]; omega]
      refine ReadW.slc_hi rfl (by kernel_rfl) rfl rfl (by show (0 : Int) ≤ (way.length : Int) ∧ (way.length : Int) ≤ (wc : Int); omega) ?_
      rw [Int.toNat_natCast]
      (first | refine wXD ?_ | exact wZD)
      refine ⟨(i4, ⟨some wb, wc⟩), ⟨hi4, (fun h => by cases h), by show way.length ≤ wc; omega, fun h => by have : wc = 0 := h; omega⟩, rfl, ⟨rfl, rfl, rfl, rfl, rfl, trivial⟩, wkE_refl _, .inr (.inr ⟨rfl, rfl, ?_, rfl, by omega, rfl⟩), wkE_refl _, trivial⟩
      rw [hway2, Nat.mul_one]
      simp [iC]
    | false =>
    rw [if_neg (of_decide_eq_false hun)]
    (first | refine wXD ?_ | exact wZD)
    -- 7: the kind, [123]: the front
    rw [← hway2]
    have hnd2 : way2.Nodup := by
      rw [hway2]
      exact List.nodup_append.2 ⟨hw, by simp, fun x hx y hy => by
        rw [List.mem_singleton.1 hy]
        intro e
        subst e
        exact of_decide_eq_false hun hx⟩
    have hr2 : ∀ x ∈ way2, 0 ≤ x ∧ x < (l.length : Int) := fun x hx => by
      rw [hway2] at hx
      rcases List.mem_append.1 hx with hx | hx
      · exact hr x hx
      · rw [List.mem_singleton.1 hx]; omega
    obtain ⟨ff, hff⟩ : ∃ ff, ff = fun o k => writeS 20000 (leafS qt it) (l.map (·.c)) m o way2 k := ⟨_, rfl⟩
    rw [← hff]
    have hfx : ∀ o x, ff o x = writeS 20000 (leafS qt it) (l.map (·.c)) m o way2 x := fun o x => by rw [hff]
    have hpre : ∀ i, (preT (Cell.mk 7 num text names items) i).length ≤ 50 := fun i => by
      have := pre_le hsh (u : Int) i
      rw [hat] at this
      exact this
    have hfold : ∀ k, (foldT ff (preT (Cell.mk 7 num text names items)) 0 (items.take k) (out ++ ([123]))).length ≤ 130000000 := fun k => by
      have hfl : (out ++ ([123])).length ≤ out.length + 2002 := by simp; try omega
      have := foldT_len (M := 20000) (f := ff) (pre := preT (Cell.mk 7 num text names items)) (p := 50) (X := 20000 + m * 200000) hpre (by omega) (fun o k ho => by rw [hff]; exact write_same m o _ k ho) (fun o k ho => by rw [hff]; have := write_len (M := 20000) hsh m o way2 k; show (writeS _ _ _ _ _ _ _).length ≤ _; omega) (items.take k) 0 (out ++ ([123])) (22002 + m * 200000) (by omega) (by omega)
      rw [List.length_take] at this
      omega
    refine spec_of_exec hm Tryz.func122 (by kernel_rfl) rfl rfl ?_
    (first | refine wXD ?_ | exact wZD)
    -- 7: the kind, [123]: the front
    refine LoopN.intro (Nat × BSt × BSt) (fun ⟨k, i, j⟩ => k ≤ items.length ∧ i.ok (foldT ff (preT (Cell.mk 7 num text names items)) 0 (items.take k) (out ++ ([123]))).length ∧ j.ok way2.length) (fun ⟨k, _, _⟩ => mkS Tryz.f122.ntmps 0 [(0, .c (.lp 0 0)), (3, .c (.lp 7 0)), (7, .c (.v (.slice ia items.length ic))), (8, .c (.v (.int .i64 (items.length : Int)))), (9, .c (.v (.int .i64 (k : Int))))])
      (fun ⟨k, i, j⟩ => wH (.slice a l.length ca) (gF a l E) true (foldT ff (preT (Cell.mk 7 num text names items)) 0 (items.take k) (out ++ ([123]))) i way2 j ++ [.dead, .dead, .dead, .blk 42 [.v (.int .i64 7), .v (.int .i64 num), .v (.string (bs text)), .v (.slice na names.length nc), .v (.slice ia items.length ic)]]) (fun ⟨k, _, _⟩ => items.length - k) [] rfl (fun ⟨_, _, _⟩ => rfl) (fun ⟨_, _, _⟩ => rfl) (fun ⟨_, _, _⟩ _ => okHB_eq rfl) ?_ ?_
    · refine ⟨(0, i2, ⟨some wb, wc⟩), ⟨Nat.zero_le _, hi2, (fun h => by cases h), by show way2.length ≤ wc; omega, fun h => by have : wc = 0 := h; omega⟩, ?_, wkE_refl _, wkE_refl _, wkE_refl _, wkE_refl _, trivial, trivial, trivial, wkE_refl _, trivial⟩
      (repeat' (first | exact trivial | refine And.intro (by with_reducible rfl) ?_ | (with_reducible exact wkC_refl _) | (with_reducible exact wkCs_refl _) | refine And.intro ?_ ?_))
      all_goals rfl
    rintro ⟨k, i3, j3⟩ ⟨hk3, hi3, hj3⟩
    (first | refine wXD ?_ | exact wZD)
    refine brd_dec (fun h1 => ?_) (fun h1 => ?_)
    · obtain ⟨x, hx⟩ : ∃ x, items[k]? = some x := ⟨_, List.getElem?_eq_getElem (by omega)⟩
      have hxin := cellD_in hcd x (List.mem_of_getElem? hx)
      obtain ⟨xn, rfl⟩ : ∃ xn : Nat, x = (xn : Int) := ⟨x.toNat, by omega⟩
      have hx1 : xn < l.length := by omega
      have hsi : ia.isSome = true := by
        have := hpo.ia
        cases ia with
        | none =>
          have h0 : items = [] := this rfl
          rw [h0] at hx
          cases hx
        | some b => rfl
      (first | refine wXD ?_ | exact wZD)
      refine Nd.mk ⟨hsi, by omega, by omega⟩ ?_
      (first | refine wXD ?_ | exact wZD)
      refine LdN.one (.int .i64 (xn : Int)) rfl (fun w hw => (hw.2.2.1.1.2 _ hpm).2) (by rw [Int.toNat_natCast]; show (iC items)[k * 1]? = _; rw [Nat.mul_one]; exact iC_get hx) ?_
      (first | refine wXD ?_ | exact wZD)
      refine brd_eq (fun hk1 => ?_) (fun hk1 => ?_)
      · rw [Int.tmod_eq_emod_of_nonneg (by omega)] at hk1
        (first | refine wXD ?_ | exact wZD)
        -- 7: the kind, [123]: the front, [32, 61, 62, 32]: what stands ahead, by rw [preT_7 rfl, if_pos (by omega)]: why
        refine callG (WriteString_w _ _ way2 j3 true (foldT ff (preT (Cell.mk 7 num text names items)) 0 (items.take k) (out ++ ([123]))) ([32, 61, 62, 32]) i3 hi3 (by have := hfold k; simp only [List.length_cons, List.length_nil]; omega)) [0, 1, 2, 3] rfl ⟨rfl, rfl, rfl, rfl, trivial⟩ rfl fun i6 hi6 => ?_
        (first | refine wXD ?_ | exact wZD)
        -- an item is written, and the round is over; [32, 61, 62, 32]: what stands ahead of it, i6: the Builder's place, by rw [preT_7 rfl, if_pos (by omega)]: the proof that it stands ahead
        refine callG (ih (by omega) (foldT ff (preT (Cell.mk 7 num text names items)) 0 (items.take k) (out ++ ([123])) ++ ([32, 61, 62, 32])) way2 i6 j3 xn (hi6) hj3 hx1 hnd2 hr2 (by omega) (by have := hfold k; simp only [List.length_append, List.length_cons, List.length_nil]; omega)) [0, 1, 2, 3] rfl ⟨rfl, rfl, rfl, rfl, trivial⟩ rfl fun st hst => ?_
        obtain ⟨i5, j5⟩ := st
        obtain ⟨hi5, hj5⟩ := hst
        simp only at hi5 hj5
        (first | refine wXD ?_ | exact wZD)
        have hfs := foldT_take (f := ff) (pre := preT (Cell.mk 7 num text names items)) hx (out ++ ([123]))
        rw [show preT (Cell.mk 7 num text names items) k = [32, 61, 62, 32] from by rw [preT_7 rfl, if_pos (by omega)], hfx] at hfs
        refine ⟨(k + 1, i5, j5), ⟨by omega, by rw [hfs]; exact hi5, hj5⟩, by show items.length - (k + 1) < items.length - k; omega, ?_, ?_⟩
        · (repeat' (first | exact trivial | refine And.intro (by with_reducible rfl) ?_ | (with_reducible exact wkC_refl _) | (with_reducible exact wkCs_refl _) | refine And.intro ?_ ?_))
          all_goals first | rfl | exact av_int (by rw [wrap_i64 (by omega)]; omega) | exact av_int (by omega)
        · show wkH _ (wH _ _ true (foldT ff _ 0 (items.take (k + 1)) _) _ _ _ ++ _)
          rw [hfs]
          exact ⟨wkE_refl _, wkE_refl _, wkE_refl _, wkE_refl _, trivial, trivial, trivial, wkE_refl _, trivial⟩
      rw [Int.tmod_eq_emod_of_nonneg (by omega)] at hk1
      (first | refine wXD ?_ | exact wZD)
      refine brd_dec (fun hk0 => ?_) (fun hk0 => ?_)
      · (first | refine wXD ?_ | exact wZD)
        -- 7: the kind, [123]: the front, [44, 32]: what stands ahead, by rw [preT_7 rfl, if_neg (by omega), if_pos (by omega)]: why
        refine callG (WriteString_w _ _ way2 j3 true (foldT ff (preT (Cell.mk 7 num text names items)) 0 (items.take k) (out ++ ([123]))) ([44, 32]) i3 hi3 (by have := hfold k; simp only [List.length_cons, List.length_nil]; omega)) [0, 1, 2, 3] rfl ⟨rfl, rfl, rfl, rfl, trivial⟩ rfl fun i6 hi6 => ?_
        (first | refine wXD ?_ | exact wZD)
        -- an item is written, and the round is over; [44, 32]: what stands ahead of it, i6: the Builder's place, by rw [preT_7 rfl, if_neg (by omega), if_pos (by omega)]: the proof that it stands ahead
        refine callG (ih (by omega) (foldT ff (preT (Cell.mk 7 num text names items)) 0 (items.take k) (out ++ ([123])) ++ ([44, 32])) way2 i6 j3 xn (hi6) hj3 hx1 hnd2 hr2 (by omega) (by have := hfold k; simp only [List.length_append, List.length_cons, List.length_nil]; omega)) [0, 1, 2, 3] rfl ⟨rfl, rfl, rfl, rfl, trivial⟩ rfl fun st hst => ?_
        obtain ⟨i5, j5⟩ := st
        obtain ⟨hi5, hj5⟩ := hst
        simp only at hi5 hj5
        (first | refine wXD ?_ | exact wZD)
        have hfs := foldT_take (f := ff) (pre := preT (Cell.mk 7 num text names items)) hx (out ++ ([123]))
        rw [show preT (Cell.mk 7 num text names items) k = [44, 32] from by rw [preT_7 rfl, if_neg (by omega), if_pos (by omega)], hfx] at hfs
        refine ⟨(k + 1, i5, j5), ⟨by omega, by rw [hfs]; exact hi5, hj5⟩, by show items.length - (k + 1) < items.length - k; omega, ?_, ?_⟩
        · (repeat' (first | exact trivial | refine And.intro (by with_reducible rfl) ?_ | (with_reducible exact wkC_refl _) | (with_reducible exact wkCs_refl _) | refine And.intro ?_ ?_))
          all_goals first | rfl | exact av_int (by rw [wrap_i64 (by omega)]; omega) | exact av_int (by omega)
        · show wkH _ (wH _ _ true (foldT ff _ 0 (items.take (k + 1)) _) _ _ _ ++ _)
          rw [hfs]
          exact ⟨wkE_refl _, wkE_refl _, wkE_refl _, wkE_refl _, trivial, trivial, trivial, wkE_refl _, trivial⟩
      · (first | refine wXD ?_ | exact wZD)
        -- 7: the kind, [123]: the front, by rw [preT_7 rfl, if_neg (by omega), if_neg (by omega)]: why
        rw [show foldT ff (preT (Cell.mk 7 num text names items)) 0 (items.take k) (out ++ ([123])) = foldT ff (preT (Cell.mk 7 num text names items)) 0 (items.take k) (out ++ ([123])) ++ [] from (List.append_nil _).symm]
        -- an item is written, and the round is over; []: what stands ahead of it, i3: the Builder's place, by rw [preT_7 rfl, if_neg (by omega), if_neg (by omega)]: the proof that it stands ahead
        refine callG (ih (by omega) (foldT ff (preT (Cell.mk 7 num text names items)) 0 (items.take k) (out ++ ([123])) ++ ([])) way2 i3 j3 xn (by rw [List.append_nil]; exact hi3) hj3 hx1 hnd2 hr2 (by omega) (by have := hfold k; simp only [List.length_append, List.length_cons, List.length_nil]; omega)) [0, 1, 2, 3] rfl ⟨rfl, rfl, rfl, rfl, trivial⟩ rfl fun st hst => ?_
        obtain ⟨i5, j5⟩ := st
        obtain ⟨hi5, hj5⟩ := hst
        simp only at hi5 hj5
        (first | refine wXD ?_ | exact wZD)
        have hfs := foldT_take (f := ff) (pre := preT (Cell.mk 7 num text names items)) hx (out ++ ([123]))
        rw [show preT (Cell.mk 7 num text names items) k = [] from by rw [preT_7 rfl, if_neg (by omega), if_neg (by omega)], hfx] at hfs
        refine ⟨(k + 1, i5, j5), ⟨by omega, by rw [hfs]; exact hi5, hj5⟩, by show items.length - (k + 1) < items.length - k; omega, ?_, ?_⟩
        · (repeat' (first | exact trivial | refine And.intro (by with_reducible rfl) ?_ | (with_reducible exact wkC_refl _) | (with_reducible exact wkCs_refl _) | refine And.intro ?_ ?_))
          all_goals first | rfl | exact av_int (by rw [wrap_i64 (by omega)]; omega) | exact av_int (by omega)
        · show wkH _ (wH _ _ true (foldT ff _ 0 (items.take (k + 1)) _) _ _ _ ++ _)
          rw [hfs]
          exact ⟨wkE_refl _, wkE_refl _, wkE_refl _, wkE_refl _, trivial, trivial, trivial, wkE_refl _, trivial⟩
    · have hin : k = items.length := by omega
      subst hin
      rw [List.take_length] at hi3 ⊢
      have hfe := hfold items.length
      rw [List.take_length] at hfe
      obtain ⟨wb, wc⟩ := j3
      cases wb with
      | none =>
        have := (hj3.1 rfl).1
        omega
      | some wb =>
      have hwc3 : way2.length ≤ wc := hj3.2.1
      (first | refine wXD ?_ | exact wZD)
      refine callG (WriteString_w _ _ way2 ⟨some wb, wc⟩ true (foldT ff (preT (Cell.mk 7 num text names items)) 0 items (out ++ ([123]))) ([125]) i3 hi3 (by simp only [List.length_cons, List.length_nil]; omega)) [0, 1, 2, 3] rfl ⟨rfl, rfl, rfl, rfl, trivial⟩ rfl fun i7 hi7 => ?_
      (first | refine wXD ?_ | exact wZD)
      -- i7: the Builder's place
      refine DrawN.plan [0, 1, 5] [(2, 1), (3, 1), (4, 1), (6, 1), (7, 1), (8, 1), (9, 1), (10, 1), (11, 1), (12, 1), (13, 1)] [(14, 0)] (by decide +kernel) ?_
      (first | refine wXD ?_ | exact wZD)
      rw [show IntKind.i64.wrap ((way2.length : Int) - 1) = (way.length : Int) by rw [wrap_i64 (by omega)]; omega]
      refine ReadW.slc_hi rfl (by kernel_rfl) rfl rfl (by show (0 : Int) ≤ (way.length : Int) ∧ (way.length : Int) ≤ (wc : Int); omega) ?_
      rw [Int.toNat_natCast]
      (first | refine wXD ?_ | exact wZD)
      refine ⟨(i7, ⟨some wb, wc⟩), ⟨hi7, (fun h => by cases h), by show way.length ≤ wc; omega, fun h => by have : wc = 0 := h; omega⟩, rfl, ⟨rfl, rfl, rfl, rfl, rfl, trivial⟩, wkE_refl _, .inr (.inr ⟨rfl, rfl, ?_, rfl, by omega, rfl⟩), wkE_refl _, trivial⟩
      rw [hway2, Nat.mul_one]
      simp [iC]
  · rw [writeS_in hM hat (fun h => absurd (of_decide_eq_true h) (by show ¬ (8 : Int) ≤ 5; decide))]
    -- 8: the kind
    refine ownC hm Tryz.func51 (by kernel_rfl) rfl rfl (fun _ _ => wH_ok _ _ _ _ _ _ _) (fun _ _ => Nat.le_refl _) ?_
    (first | refine wX ?_ | exact wZ)
    refine callG (Len_w _ _ way j false out i) [0, 1, 2, 3] rfl ⟨rfl, rfl, rfl, rfl, trivial⟩ rfl fun _ _ => ?_
    (first | refine wX ?_ | exact wZ)
    refine brd_dec (fun h => absurd h (by omega)) (fun _ => ?_)
    (first | refine wX ?_ | exact wZ)
    refine Nd.mk ⟨hsa, by omega, by omega⟩ ?_
    (first | refine wX ?_ | exact wZ)
    refine LdN.agg [.int .i64 8, .int .i64 num, .string (bs text), .slice na names.length nc, .slice ia items.length ic] rfl (fun w hw => hw.2.2.1.1.1) rfl (fun k hk => by rw [Int.toNat_natCast]; exact grC_get l u k hk hp) ?_
    (first | refine wXD ?_ | exact wZD)
    refine spec_of_exec hm Tryz.func99 (by kernel_rfl) rfl rfl ?_
    ((conv => whnf); (repeat ((first | refine LdN.one (a := some ⟨cb, 0, none⟩) (q := 0) (xs := [_, _, _, _, _]) _ rfl (fun w hw => hw.2.2.2.1) rfl ?_ | refine LdN.one (a := some ⟨cb, 0, none⟩) (q := 1) (xs := [_, _, _, _, _]) _ rfl (fun w hw => hw.2.2.2.1) rfl ?_ | refine LdN.one (a := some ⟨cb, 0, none⟩) (q := 2) (xs := [_, _, _, _, _]) _ rfl (fun w hw => hw.2.2.2.1) rfl ?_ | refine LdN.one (a := some ⟨cb, 0, none⟩) (q := 3) (xs := [_, _, _, _, _]) _ rfl (fun w hw => hw.2.2.2.1) rfl ?_ | refine LdN.one (a := some ⟨cb, 0, none⟩) (q := 4) (xs := [_, _, _, _, _]) _ rfl (fun w hw => hw.2.2.2.1) rfl ?_ | refine RwN.own ?_ | refine VrN.norm (wrap_i64 (by omega)) ?_ | refine VrN.keep ?_ | refine Nd.mk (by decide +kernel) ?_ | refine Nd.mk (by omega) ?_ | (refine Nd.mk ?_ ?_; focus ((repeat' (first | exact trivial | exact wkE_refl _ | refine And.intro ?_ ?_)); done)) | refine RdN.intro _ rfl (by rfl) ?_); (conv => whnf))))
    refine BoxN.known [.int .i64 8, .int .i64 num, .string (bs text), .slice na names.length nc, .slice ia items.length ic] rfl fun cb => ?_
    ((conv => whnf); (repeat ((first | refine LdN.one (a := some ⟨cb, 0, none⟩) (q := 0) (xs := [_, _, _, _, _]) _ rfl (fun w hw => hw.2.2.2.1) rfl ?_ | refine LdN.one (a := some ⟨cb, 0, none⟩) (q := 1) (xs := [_, _, _, _, _]) _ rfl (fun w hw => hw.2.2.2.1) rfl ?_ | refine LdN.one (a := some ⟨cb, 0, none⟩) (q := 2) (xs := [_, _, _, _, _]) _ rfl (fun w hw => hw.2.2.2.1) rfl ?_ | refine LdN.one (a := some ⟨cb, 0, none⟩) (q := 3) (xs := [_, _, _, _, _]) _ rfl (fun w hw => hw.2.2.2.1) rfl ?_ | refine LdN.one (a := some ⟨cb, 0, none⟩) (q := 4) (xs := [_, _, _, _, _]) _ rfl (fun w hw => hw.2.2.2.1) rfl ?_ | refine RwN.own ?_ | refine VrN.norm (wrap_i64 (by omega)) ?_ | refine VrN.keep ?_ | refine Nd.mk (by decide +kernel) ?_ | refine Nd.mk (by omega) ?_ | (refine Nd.mk ?_ ?_; focus ((repeat' (first | exact trivial | exact wkE_refl _ | refine And.intro ?_ ?_)); done)) | refine RdN.intro _ rfl (by rfl) ?_); (conv => whnf))))
    refine SpecH.args (args' := pvs [.slice (at0 j.ob) way.length j.cap, .int .i64 (u : Int)]) (by simp [pvs, opvs, opv, nth]; try rfl) ?_
    refine call1 (contains_c j.ob j.cap way u (fun h => List.eq_nil_of_length_eq_zero (hj.1 h).1) (by omega) _ (fun w hw => hw.2.1)) ?_
    ((conv => whnf); (repeat ((first | refine LdN.one (a := some ⟨cb, 0, none⟩) (q := 0) (xs := [_, _, _, _, _]) _ rfl (fun w hw => hw.2.2.2.1) rfl ?_ | refine LdN.one (a := some ⟨cb, 0, none⟩) (q := 1) (xs := [_, _, _, _, _]) _ rfl (fun w hw => hw.2.2.2.1) rfl ?_ | refine LdN.one (a := some ⟨cb, 0, none⟩) (q := 2) (xs := [_, _, _, _, _]) _ rfl (fun w hw => hw.2.2.2.1) rfl ?_ | refine LdN.one (a := some ⟨cb, 0, none⟩) (q := 3) (xs := [_, _, _, _, _]) _ rfl (fun w hw => hw.2.2.2.1) rfl ?_ | refine LdN.one (a := some ⟨cb, 0, none⟩) (q := 4) (xs := [_, _, _, _, _]) _ rfl (fun w hw => hw.2.2.2.1) rfl ?_ | refine RwN.own ?_ | refine VrN.norm (wrap_i64 (by omega)) ?_ | refine VrN.keep ?_ | refine Nd.mk (by decide +kernel) ?_ | refine Nd.mk (by omega) ?_ | (refine Nd.mk ?_ ?_; focus ((repeat' (first | exact trivial | exact wkE_refl _ | refine And.intro ?_ ?_)); done)) | refine RdN.intro _ rfl (by rfl) ?_); (conv => whnf))))
    try refine Nd.mk ⟨Nat.le_refl 1, rfl, rfl⟩ ?_
    (conv => whnf)
    refine AppN.grow 2 (iC way) [.int .i64 (u : Int)] rfl rfl ⟨Nat.le_refl 1, ⟨by show (way.length + 1) * 8 ≤ _; omega, by omega⟩, Nat.one_ne_zero⟩ fun wb wc hwc _ => ?_
    obtain ⟨way2, hway2⟩ : ∃ w2, w2 = way ++ [(u : Int)] := ⟨_, rfl⟩
    have hcl : iC way ++ [.int .i64 (u : Int)] = iC way2 := by rw [hway2]; simp [iC]
    have hll : way.length + 1 = way2.length := by rw [hway2]; simp
    rw [hcl, hll]
    ((conv => whnf); (repeat ((first | refine LdN.one (a := some ⟨cb, 0, none⟩) (q := 0) (xs := [_, _, _, _, _]) _ rfl (fun w hw => hw.2.2.2.1) rfl ?_ | refine LdN.one (a := some ⟨cb, 0, none⟩) (q := 1) (xs := [_, _, _, _, _]) _ rfl (fun w hw => hw.2.2.2.1) rfl ?_ | refine LdN.one (a := some ⟨cb, 0, none⟩) (q := 2) (xs := [_, _, _, _, _]) _ rfl (fun w hw => hw.2.2.2.1) rfl ?_ | refine LdN.one (a := some ⟨cb, 0, none⟩) (q := 3) (xs := [_, _, _, _, _]) _ rfl (fun w hw => hw.2.2.2.1) rfl ?_ | refine LdN.one (a := some ⟨cb, 0, none⟩) (q := 4) (xs := [_, _, _, _, _]) _ rfl (fun w hw => hw.2.2.2.1) rfl ?_ | refine RwN.own ?_ | refine VrN.norm (wrap_i64 (by omega)) ?_ | refine VrN.keep ?_ | refine Nd.mk (by decide +kernel) ?_ | refine Nd.mk (by omega) ?_ | (refine Nd.mk ?_ ?_; focus ((repeat' (first | exact trivial | exact wkE_refl _ | refine And.intro ?_ ?_)); done)) | refine RdN.intro _ rfl (by rfl) ?_); (conv => whnf))))
    refine Nd.mk (by show 2 + (bs text).size < _; rw [bs_size]; omega) ?_
    rw [show (({ data := #[35, 60] } : ByteArray) ++ bs text) = bs ([35, 60] ++ text) by rw [← bs_app]; rfl]
    ((conv => whnf); (repeat ((first | refine LdN.one (a := some ⟨cb, 0, none⟩) (q := 0) (xs := [_, _, _, _, _]) _ rfl (fun w hw => hw.2.2.2.1) rfl ?_ | refine LdN.one (a := some ⟨cb, 0, none⟩) (q := 1) (xs := [_, _, _, _, _]) _ rfl (fun w hw => hw.2.2.2.1) rfl ?_ | refine LdN.one (a := some ⟨cb, 0, none⟩) (q := 2) (xs := [_, _, _, _, _]) _ rfl (fun w hw => hw.2.2.2.1) rfl ?_ | refine LdN.one (a := some ⟨cb, 0, none⟩) (q := 3) (xs := [_, _, _, _, _]) _ rfl (fun w hw => hw.2.2.2.1) rfl ?_ | refine LdN.one (a := some ⟨cb, 0, none⟩) (q := 4) (xs := [_, _, _, _, _]) _ rfl (fun w hw => hw.2.2.2.1) rfl ?_ | refine RwN.own ?_ | refine VrN.norm (wrap_i64 (by omega)) ?_ | refine VrN.keep ?_ | refine Nd.mk (by decide +kernel) ?_ | refine Nd.mk (by omega) ?_ | (refine Nd.mk ?_ ?_; focus ((repeat' (first | exact trivial | exact wkE_refl _ | refine And.intro ?_ ?_)); done)) | refine RdN.intro _ rfl (by rfl) ?_); (conv => whnf))))
    -- [35, 60] ++ text: what is written, i2: the place behind
    refine callG (WriteString_w _ _ way2 ⟨some wb, wc⟩ false out ([35, 60] ++ text) i hi (by first | omega | (simp; omega))) [0, 1, 2, 3] rfl ⟨rfl, rfl, rfl, rfl, trivial⟩ rfl fun i2 hi2 => ?_
    ((conv => whnf); (repeat ((first | refine LdN.one (a := some ⟨cb, 0, none⟩) (q := 0) (xs := [_, _, _, _, _]) _ rfl (fun w hw => hw.2.2.2.1) rfl ?_ | refine LdN.one (a := some ⟨cb, 0, none⟩) (q := 1) (xs := [_, _, _, _, _]) _ rfl (fun w hw => hw.2.2.2.1) rfl ?_ | refine LdN.one (a := some ⟨cb, 0, none⟩) (q := 2) (xs := [_, _, _, _, _]) _ rfl (fun w hw => hw.2.2.2.1) rfl ?_ | refine LdN.one (a := some ⟨cb, 0, none⟩) (q := 3) (xs := [_, _, _, _, _]) _ rfl (fun w hw => hw.2.2.2.1) rfl ?_ | refine LdN.one (a := some ⟨cb, 0, none⟩) (q := 4) (xs := [_, _, _, _, _]) _ rfl (fun w hw => hw.2.2.2.1) rfl ?_ | refine RwN.own ?_ | refine VrN.norm (wrap_i64 (by omega)) ?_ | refine VrN.keep ?_ | refine Nd.mk (by decide +kernel) ?_ | refine Nd.mk (by omega) ?_ | (refine Nd.mk ?_ ?_; focus ((repeat' (first | exact trivial | exact wkE_refl _ | refine And.intro ?_ ?_)); done)) | refine RdN.intro _ rfl (by rfl) ?_); (conv => whnf))))
    cases hun : decide ((u : Int) ∈ way) with
    | true =>
      rw [if_pos (of_decide_eq_true hun)]
      ((conv => whnf); (repeat ((first | refine LdN.one (a := some ⟨cb, 0, none⟩) (q := 0) (xs := [_, _, _, _, _]) _ rfl (fun w hw => hw.2.2.2.1) rfl ?_ | refine LdN.one (a := some ⟨cb, 0, none⟩) (q := 1) (xs := [_, _, _, _, _]) _ rfl (fun w hw => hw.2.2.2.1) rfl ?_ | refine LdN.one (a := some ⟨cb, 0, none⟩) (q := 2) (xs := [_, _, _, _, _]) _ rfl (fun w hw => hw.2.2.2.1) rfl ?_ | refine LdN.one (a := some ⟨cb, 0, none⟩) (q := 3) (xs := [_, _, _, _, _]) _ rfl (fun w hw => hw.2.2.2.1) rfl ?_ | refine LdN.one (a := some ⟨cb, 0, none⟩) (q := 4) (xs := [_, _, _, _, _]) _ rfl (fun w hw => hw.2.2.2.1) rfl ?_ | refine RwN.own ?_ | refine VrN.norm (wrap_i64 (by omega)) ?_ | refine VrN.keep ?_ | refine Nd.mk (by decide +kernel) ?_ | refine Nd.mk (by omega) ?_ | (refine Nd.mk ?_ ?_; focus ((repeat' (first | exact trivial | exact wkE_refl _ | refine And.intro ?_ ?_)); done)) | refine RdN.intro _ rfl (by rfl) ?_); (conv => whnf))))
      -- out ++ ([35, 60] ++ text): what is there, [32, 46, 46, 46]: what is written, i2: the Builder's place, hi2: its word, i3: the place behind
      refine callG (WriteString_w _ _ way2 ⟨some wb, wc⟩ true (out ++ ([35, 60] ++ text)) ([32, 46, 46, 46]) i2 hi2 (by first | omega | (simp; omega))) [0, 1, 2, 3] rfl ⟨rfl, rfl, rfl, rfl, trivial⟩ rfl fun i3 hi3 => ?_
      ((conv => whnf); (repeat ((first | refine LdN.one (a := some ⟨cb, 0, none⟩) (q := 0) (xs := [_, _, _, _, _]) _ rfl (fun w hw => hw.2.2.2.1) rfl ?_ | refine LdN.one (a := some ⟨cb, 0, none⟩) (q := 1) (xs := [_, _, _, _, _]) _ rfl (fun w hw => hw.2.2.2.1) rfl ?_ | refine LdN.one (a := some ⟨cb, 0, none⟩) (q := 2) (xs := [_, _, _, _, _]) _ rfl (fun w hw => hw.2.2.2.1) rfl ?_ | refine LdN.one (a := some ⟨cb, 0, none⟩) (q := 3) (xs := [_, _, _, _, _]) _ rfl (fun w hw => hw.2.2.2.1) rfl ?_ | refine LdN.one (a := some ⟨cb, 0, none⟩) (q := 4) (xs := [_, _, _, _, _]) _ rfl (fun w hw => hw.2.2.2.1) rfl ?_ | refine RwN.own ?_ | refine VrN.norm (wrap_i64 (by omega)) ?_ | refine VrN.keep ?_ | refine Nd.mk (by decide +kernel) ?_ | refine Nd.mk (by omega) ?_ | (refine Nd.mk ?_ ?_; focus ((repeat' (first | exact trivial | exact wkE_refl _ | refine And.intro ?_ ?_)); done)) | refine RdN.intro _ rfl (by rfl) ?_); (conv => whnf))))
      -- out ++ ([35, 60] ++ text) ++ [32, 46, 46, 46]: what is there, [62]: what is written, i3: the Builder's place, hi3: its word, i4: the place behind
      refine callG (WriteString_w _ _ way2 ⟨some wb, wc⟩ true (out ++ ([35, 60] ++ text) ++ [32, 46, 46, 46]) ([62]) i3 hi3 (by first | omega | (simp; omega))) [0, 1, 2, 3] rfl ⟨rfl, rfl, rfl, rfl, trivial⟩ rfl fun i4 hi4 => ?_
      ((conv => whnf); (repeat ((first | refine LdN.one (a := some ⟨cb, 0, none⟩) (q := 0) (xs := [_, _, _, _, _]) _ rfl (fun w hw => hw.2.2.2.1) rfl ?_ | refine LdN.one (a := some ⟨cb, 0, none⟩) (q := 1) (xs := [_, _, _, _, _]) _ rfl (fun w hw => hw.2.2.2.1) rfl ?_ | refine LdN.one (a := some ⟨cb, 0, none⟩) (q := 2) (xs := [_, _, _, _, _]) _ rfl (fun w hw => hw.2.2.2.1) rfl ?_ | refine LdN.one (a := some ⟨cb, 0, none⟩) (q := 3) (xs := [_, _, _, _, _]) _ rfl (fun w hw => hw.2.2.2.1) rfl ?_ | refine LdN.one (a := some ⟨cb, 0, none⟩) (q := 4) (xs := [_, _, _, _, _]) _ rfl (fun w hw => hw.2.2.2.1) rfl ?_ | refine RwN.own ?_ | refine VrN.norm (wrap_i64 (by omega)) ?_ | refine VrN.keep ?_ | refine Nd.mk (by decide +kernel) ?_ | refine Nd.mk (by omega) ?_ | (refine Nd.mk ?_ ?_; focus ((repeat' (first | exact trivial | exact wkE_refl _ | refine And.intro ?_ ?_)); done)) | refine RdN.intro _ rfl (by rfl) ?_); (conv => whnf))))
      -- i4: the Builder's place
      refine DrawN.plan [0, 1, 5] [(2, 1), (3, 1), (4, 1), (6, 1), (7, 1), (8, 1), (9, 1), (10, 1), (11, 1), (12, 1), (13, 1)] [(14, 0)] (by decide +kernel) ?_
      (first | refine wXD ?_ | exact wZD)
      rw [show IntKind.i64.wrap ((way2.length : Int) - 1) = (way.length : Int) by rw [wrap_i64 (by omega)]; omega]
      refine ReadW.slc_hi rfl (by kernel_rfl) rfl rfl (by show (0 : Int) ≤ (way.length : Int) ∧ (way.length : Int) ≤ (wc : Int); omega) ?_
      rw [Int.toNat_natCast]
      (first | refine wXD ?_ | exact wZD)
      refine ⟨(i4, ⟨some wb, wc⟩), ⟨hi4, (fun h => by cases h), by show way.length ≤ wc; omega, fun h => by have : wc = 0 := h; omega⟩, rfl, ⟨rfl, rfl, rfl, rfl, rfl, trivial⟩, wkE_refl _, .inr (.inr ⟨rfl, rfl, ?_, rfl, by omega, rfl⟩), wkE_refl _, trivial⟩
      rw [hway2, Nat.mul_one]
      simp [iC]
    | false =>
    rw [if_neg (of_decide_eq_false hun)]
    ((conv => whnf); (repeat ((first | refine LdN.one (a := some ⟨cb, 0, none⟩) (q := 0) (xs := [_, _, _, _, _]) _ rfl (fun w hw => hw.2.2.2.1) rfl ?_ | refine LdN.one (a := some ⟨cb, 0, none⟩) (q := 1) (xs := [_, _, _, _, _]) _ rfl (fun w hw => hw.2.2.2.1) rfl ?_ | refine LdN.one (a := some ⟨cb, 0, none⟩) (q := 2) (xs := [_, _, _, _, _]) _ rfl (fun w hw => hw.2.2.2.1) rfl ?_ | refine LdN.one (a := some ⟨cb, 0, none⟩) (q := 3) (xs := [_, _, _, _, _]) _ rfl (fun w hw => hw.2.2.2.1) rfl ?_ | refine LdN.one (a := some ⟨cb, 0, none⟩) (q := 4) (xs := [_, _, _, _, _]) _ rfl (fun w hw => hw.2.2.2.1) rfl ?_ | refine RwN.own ?_ | refine VrN.norm (wrap_i64 (by omega)) ?_ | refine VrN.keep ?_ | refine Nd.mk (by decide +kernel) ?_ | refine Nd.mk (by omega) ?_ | (refine Nd.mk ?_ ?_; focus ((repeat' (first | exact trivial | exact wkE_refl _ | refine And.intro ?_ ?_)); done)) | refine RdN.intro _ rfl (by rfl) ?_); (conv => whnf))))
    -- 8: the kind, [35, 60] ++ text: the front
    rw [← hway2]
    have hnd2 : way2.Nodup := by
      rw [hway2]
      exact List.nodup_append.2 ⟨hw, by simp, fun x hx y hy => by
        rw [List.mem_singleton.1 hy]
        intro e
        subst e
        exact of_decide_eq_false hun hx⟩
    have hr2 : ∀ x ∈ way2, 0 ≤ x ∧ x < (l.length : Int) := fun x hx => by
      rw [hway2] at hx
      rcases List.mem_append.1 hx with hx | hx
      · exact hr x hx
      · rw [List.mem_singleton.1 hx]; omega
    obtain ⟨ff, hff⟩ : ∃ ff, ff = fun o k => writeS 20000 (leafS qt it) (l.map (·.c)) m o way2 k := ⟨_, rfl⟩
    rw [← hff]
    have hfx : ∀ o x, ff o x = writeS 20000 (leafS qt it) (l.map (·.c)) m o way2 x := fun o x => by rw [hff]
    have hpre : ∀ i, (preT (Cell.mk 8 num text names items) i).length ≤ 50 := fun i => by
      have := pre_le hsh (u : Int) i
      rw [hat] at this
      exact this
    have hfold : ∀ k, (foldT ff (preT (Cell.mk 8 num text names items)) 0 (items.take k) (out ++ ([35, 60] ++ text))).length ≤ 130000000 := fun k => by
      have hfl : (out ++ ([35, 60] ++ text)).length ≤ out.length + 2002 := by simp; try omega
      have := foldT_len (M := 20000) (f := ff) (pre := preT (Cell.mk 8 num text names items)) (p := 50) (X := 20000 + m * 200000) hpre (by omega) (fun o k ho => by rw [hff]; exact write_same m o _ k ho) (fun o k ho => by rw [hff]; have := write_len (M := 20000) hsh m o way2 k; show (writeS _ _ _ _ _ _ _).length ≤ _; omega) (items.take k) 0 (out ++ ([35, 60] ++ text)) (22002 + m * 200000) (by omega) (by omega)
      rw [List.length_take] at this
      omega
    refine LoopN.intro (Nat × BSt × BSt) (fun ⟨k, i, j⟩ => k ≤ items.length ∧ i.ok (foldT ff (preT (Cell.mk 8 num text names items)) 0 (items.take k) (out ++ ([35, 60] ++ text))).length ∧ j.ok way2.length) (fun ⟨k, _, _⟩ => mkS Tryz.f99.ntmps 0 [(0, .c (.lp 0 0)), (5, .c (.v (.pointer (some ⟨cb, 0, none⟩)))), (8, .c (.v (.string (bs [62])))), (57, .c (.v (.slice ia items.length ic))), (58, .c (.v (.int .i64 (items.length : Int)))), (59, .c (.v (.int .i64 (k : Int))))])
      (fun ⟨k, i, j⟩ => wH (.slice a l.length ca) (gF a l E) true (foldT ff (preT (Cell.mk 8 num text names items)) 0 (items.take k) (out ++ ([35, 60] ++ text))) i way2 j ++ [.dead, .app 42 5 [.int .i64 8, .int .i64 num, .string (bs text), .slice na names.length nc, .slice ia items.length ic] (some ⟨cb, 0, none⟩) 1 1, .dead]) (fun ⟨k, _, _⟩ => items.length - k) [] rfl (fun ⟨_, _, _⟩ => rfl) (fun ⟨_, _, _⟩ => rfl) (fun ⟨_, _, _⟩ _ => okHB_eq rfl) ?_ ?_
    · refine ⟨(0, i2, ⟨some wb, wc⟩), ⟨Nat.zero_le _, hi2, (fun h => by cases h), by show way2.length ≤ wc; omega, fun h => by have : wc = 0 := h; omega⟩, ?_, wkE_refl _, wkE_refl _, wkE_refl _, wkE_refl _, trivial, wkE_refl _, trivial, trivial⟩
      (repeat' (first | exact trivial | refine And.intro (by with_reducible rfl) ?_ | (with_reducible exact wkC_refl _) | (with_reducible exact wkCs_refl _) | refine And.intro ?_ ?_))
      all_goals rfl
    rintro ⟨k, i3, j3⟩ ⟨hk3, hi3, hj3⟩
    ((conv => whnf); (repeat ((first | refine LdN.one (a := some ⟨cb, 0, none⟩) (q := 0) (xs := [_, _, _, _, _]) _ rfl (fun w hw => hw.2.2.2.1) rfl ?_ | refine LdN.one (a := some ⟨cb, 0, none⟩) (q := 1) (xs := [_, _, _, _, _]) _ rfl (fun w hw => hw.2.2.2.1) rfl ?_ | refine LdN.one (a := some ⟨cb, 0, none⟩) (q := 2) (xs := [_, _, _, _, _]) _ rfl (fun w hw => hw.2.2.2.1) rfl ?_ | refine LdN.one (a := some ⟨cb, 0, none⟩) (q := 3) (xs := [_, _, _, _, _]) _ rfl (fun w hw => hw.2.2.2.1) rfl ?_ | refine LdN.one (a := some ⟨cb, 0, none⟩) (q := 4) (xs := [_, _, _, _, _]) _ rfl (fun w hw => hw.2.2.2.1) rfl ?_ | refine RwN.own ?_ | refine VrN.norm (wrap_i64 (by omega)) ?_ | refine VrN.keep ?_ | refine Nd.mk (by decide +kernel) ?_ | refine Nd.mk (by omega) ?_ | (refine Nd.mk ?_ ?_; focus ((repeat' (first | exact trivial | exact wkE_refl _ | refine And.intro ?_ ?_)); done)) | refine RdN.intro _ rfl (by rfl) ?_); (conv => whnf))))
    refine brd_dec (fun h1 => ?_) (fun h1 => ?_)
    · obtain ⟨x, hx⟩ : ∃ x, items[k]? = some x := ⟨_, List.getElem?_eq_getElem (by omega)⟩
      have hxin := cellD_in hcd x (List.mem_of_getElem? hx)
      obtain ⟨xn, rfl⟩ : ∃ xn : Nat, x = (xn : Int) := ⟨x.toNat, by omega⟩
      have hx1 : xn < l.length := by omega
      have hsi : ia.isSome = true := by
        have := hpo.ia
        cases ia with
        | none =>
          have h0 : items = [] := this rfl
          rw [h0] at hx
          cases hx
        | some b => rfl
      have hln : names.length = items.length := cellD_lens hcd rfl
      obtain ⟨nm, hnm⟩ : ∃ nm, names[k]? = some nm := ⟨_, List.getElem?_eq_getElem (by omega)⟩
      have hnl40 : nm.length ≤ 40 := cellD_names hcd nm (List.mem_of_getElem? hnm)
      have hsn : na.isSome = true := by
        have := hpo.na
        cases na with
        | none =>
          have h0 : names = [] := this rfl
          rw [h0] at hnm
          cases hnm
        | some b => rfl
      ((conv => whnf); (repeat ((first | refine LdN.one (a := some ⟨cb, 0, none⟩) (q := 0) (xs := [_, _, _, _, _]) _ rfl (fun w hw => hw.2.2.2.1) rfl ?_ | refine LdN.one (a := some ⟨cb, 0, none⟩) (q := 1) (xs := [_, _, _, _, _]) _ rfl (fun w hw => hw.2.2.2.1) rfl ?_ | refine LdN.one (a := some ⟨cb, 0, none⟩) (q := 2) (xs := [_, _, _, _, _]) _ rfl (fun w hw => hw.2.2.2.1) rfl ?_ | refine LdN.one (a := some ⟨cb, 0, none⟩) (q := 3) (xs := [_, _, _, _, _]) _ rfl (fun w hw => hw.2.2.2.1) rfl ?_ | refine LdN.one (a := some ⟨cb, 0, none⟩) (q := 4) (xs := [_, _, _, _, _]) _ rfl (fun w hw => hw.2.2.2.1) rfl ?_ | refine RwN.own ?_ | refine VrN.norm (wrap_i64 (by omega)) ?_ | refine VrN.keep ?_ | refine Nd.mk (by decide +kernel) ?_ | refine Nd.mk (by omega) ?_ | (refine Nd.mk ?_ ?_; focus ((repeat' (first | exact trivial | exact wkE_refl _ | refine And.intro ?_ ?_)); done)) | refine RdN.intro _ rfl (by rfl) ?_); (conv => whnf))))
      refine Nd.mk ⟨hsi, by omega, by omega⟩ ?_
      ((conv => whnf); (repeat ((first | refine LdN.one (a := some ⟨cb, 0, none⟩) (q := 0) (xs := [_, _, _, _, _]) _ rfl (fun w hw => hw.2.2.2.1) rfl ?_ | refine LdN.one (a := some ⟨cb, 0, none⟩) (q := 1) (xs := [_, _, _, _, _]) _ rfl (fun w hw => hw.2.2.2.1) rfl ?_ | refine LdN.one (a := some ⟨cb, 0, none⟩) (q := 2) (xs := [_, _, _, _, _]) _ rfl (fun w hw => hw.2.2.2.1) rfl ?_ | refine LdN.one (a := some ⟨cb, 0, none⟩) (q := 3) (xs := [_, _, _, _, _]) _ rfl (fun w hw => hw.2.2.2.1) rfl ?_ | refine LdN.one (a := some ⟨cb, 0, none⟩) (q := 4) (xs := [_, _, _, _, _]) _ rfl (fun w hw => hw.2.2.2.1) rfl ?_ | refine RwN.own ?_ | refine VrN.norm (wrap_i64 (by omega)) ?_ | refine VrN.keep ?_ | refine Nd.mk (by decide +kernel) ?_ | refine Nd.mk (by omega) ?_ | (refine Nd.mk ?_ ?_; focus ((repeat' (first | exact trivial | exact wkE_refl _ | refine And.intro ?_ ?_)); done)) | refine RdN.intro _ rfl (by rfl) ?_); (conv => whnf))))
      refine LdN.one (.int .i64 (xn : Int)) rfl (fun w hw => (hw.2.2.1.1.2 _ hpm).2) (by rw [Int.toNat_natCast]; show (iC items)[k * 1]? = _; rw [Nat.mul_one]; exact iC_get hx) ?_
      ((conv => whnf); (repeat ((first | refine LdN.one (a := some ⟨cb, 0, none⟩) (q := 0) (xs := [_, _, _, _, _]) _ rfl (fun w hw => hw.2.2.2.1) rfl ?_ | refine LdN.one (a := some ⟨cb, 0, none⟩) (q := 1) (xs := [_, _, _, _, _]) _ rfl (fun w hw => hw.2.2.2.1) rfl ?_ | refine LdN.one (a := some ⟨cb, 0, none⟩) (q := 2) (xs := [_, _, _, _, _]) _ rfl (fun w hw => hw.2.2.2.1) rfl ?_ | refine LdN.one (a := some ⟨cb, 0, none⟩) (q := 3) (xs := [_, _, _, _, _]) _ rfl (fun w hw => hw.2.2.2.1) rfl ?_ | refine LdN.one (a := some ⟨cb, 0, none⟩) (q := 4) (xs := [_, _, _, _, _]) _ rfl (fun w hw => hw.2.2.2.1) rfl ?_ | refine RwN.own ?_ | refine VrN.norm (wrap_i64 (by omega)) ?_ | refine VrN.keep ?_ | refine Nd.mk (by decide +kernel) ?_ | refine Nd.mk (by omega) ?_ | (refine Nd.mk ?_ ?_; focus ((repeat' (first | exact trivial | exact wkE_refl _ | refine And.intro ?_ ?_)); done)) | refine RdN.intro _ rfl (by rfl) ?_); (conv => whnf))))
      refine DrawN.planK hm (fun w => SlAt (some ⟨cb, 0, none⟩) 5 [.int .i64 8, .int .i64 num, .string (bs text), .slice na names.length nc, .slice ia items.length ic] w ∧ SlAt na (names.length * 1) (strC names) w) [3] [0, 4, 8, 10] [(1, 1), (2, 1), (5, 1), (9, 1), (11, 1), (12, 1), (3, 2), (6, 0), (7, 0), (13, 0), (14, 0), (15, 0)] (by decide +kernel) (fun w hw => ⟨hw.2.2.2.1, (hw.2.2.1.1.2 _ hpm).1⟩) ?_
      -- fun w hw => ⟨hw.2.2.2.1, (hw.2.2.1.1.2 _ hpm).1⟩: why the kind holds
      ((conv => whnf); (repeat ((first | refine Nd.mk (fun w hw => ⟨hw.2.2.2.1, (hw.2.2.1.1.2 _ hpm).1⟩) ?_ | refine VrN.norm (wrap_i64 (by omega)) ?_ | refine VrN.keep ?_ | refine Nd.mk (by decide +kernel) ?_ | refine Nd.mk (by omega) ?_ | refine RdN.intro _ rfl (by rfl) ?_); (conv => whnf))))
      refine BlindW.min2 (x := .tmp 68) (y := .const (.int .i64 1)) (a := (k : Int)) (b := 1) rfl rfl ?_ rfl ?_
      · rfl
      -- fun w hw => ⟨hw.2.2.2.1, (hw.2.2.1.1.2 _ hpm).1⟩: why the kind holds
      ((conv => whnf); (repeat ((first | refine Nd.mk (fun w hw => ⟨hw.2.2.2.1, (hw.2.2.1.1.2 _ hpm).1⟩) ?_ | refine VrN.norm (wrap_i64 (by omega)) ?_ | refine VrN.keep ?_ | refine Nd.mk (by decide +kernel) ?_ | refine Nd.mk (by omega) ?_ | refine RdN.intro _ rfl (by rfl) ?_); (conv => whnf))))
      refine ReadC.one (T := 40) (x := .tmp 72) (a := some ⟨cb, 0, none⟩) (q := 3) (k := 5) (xs := [.int .i64 8, .int .i64 num, .string (bs text), .slice na names.length nc, .slice ia items.length ic]) (.slice na names.length nc) ?_ ?_ ?_ ?_ ?_ ?_
      · rfl
      · rfl
      · rfl
      · exact fun w hw => hw.1
      · rfl
      -- fun w hw => ⟨hw.2.2.2.1, (hw.2.2.1.1.2 _ hpm).1⟩: why the kind holds
      ((conv => whnf); (repeat ((first | refine Nd.mk (fun w hw => ⟨hw.2.2.2.1, (hw.2.2.1.1.2 _ hpm).1⟩) ?_ | refine VrN.norm (wrap_i64 (by omega)) ?_ | refine VrN.keep ?_ | refine Nd.mk (by decide +kernel) ?_ | refine Nd.mk (by omega) ?_ | refine RdN.intro _ rfl (by rfl) ?_); (conv => whnf))))
      refine ReadC.idxA (T := 40) (x := .tmp 73) (i := .tmp 74) (kk := .i64) (e := 9) (sz := 1) (a := na) (n := names.length) (cap := nc) k rfl Tryz.underlying40 rfl rfl ?_ ?_ hsn (by omega) ?_
      · rfl
      · rfl
      -- fun w hw => ⟨hw.2.2.2.1, (hw.2.2.1.1.2 _ hpm).1⟩: why the kind holds
      ((conv => whnf); (repeat ((first | refine Nd.mk (fun w hw => ⟨hw.2.2.2.1, (hw.2.2.1.1.2 _ hpm).1⟩) ?_ | refine VrN.norm (wrap_i64 (by omega)) ?_ | refine VrN.keep ?_ | refine Nd.mk (by decide +kernel) ?_ | refine Nd.mk (by omega) ?_ | refine RdN.intro _ rfl (by rfl) ?_); (conv => whnf))))
      refine ReadC.one (T := 9) (x := .tmp 75) (a := na) (q := k * 1) (k := names.length * 1) (xs := strC names) (.string (bs nm)) ?_ ?_ ?_ ?_ ?_ ?_
      · rfl
      · rfl
      · rfl
      · exact fun w hw => hw.2
      · rw [Nat.mul_one]; exact strC_get hnm
      -- fun w hw => ⟨hw.2.2.2.1, (hw.2.2.1.1.2 _ hpm).1⟩: why the kind holds
      ((conv => whnf); (repeat ((first | refine Nd.mk (fun w hw => ⟨hw.2.2.2.1, (hw.2.2.1.1.2 _ hpm).1⟩) ?_ | refine VrN.norm (wrap_i64 (by omega)) ?_ | refine VrN.keep ?_ | refine Nd.mk (by decide +kernel) ?_ | refine Nd.mk (by omega) ?_ | refine RdN.intro _ rfl (by rfl) ?_); (conv => whnf))))
      intro rb
      -- fun w hw => ⟨hw.2.2.2.1, (hw.2.2.1.1.2 _ hpm).1⟩: why the kind holds
      ((conv => whnf); (repeat ((first | refine Nd.mk (fun w hw => ⟨hw.2.2.2.1, (hw.2.2.1.1.2 _ hpm).1⟩) ?_ | refine VrN.norm (wrap_i64 (by omega)) ?_ | refine VrN.keep ?_ | refine Nd.mk (by decide +kernel) ?_ | refine Nd.mk (by omega) ?_ | refine RdN.intro _ rfl (by rfl) ?_); (conv => whnf))))
      refine Nd.mk ⟨rfl, by unfold minI; split <;> omega, by unfold minI; split <;> omega⟩ ?_
      -- fun w hw => ⟨hw.2.2.2.1, (hw.2.2.1.1.2 _ hpm).1⟩: why the kind holds
      ((conv => whnf); (repeat ((first | refine Nd.mk (fun w hw => ⟨hw.2.2.2.1, (hw.2.2.1.1.2 _ hpm).1⟩) ?_ | refine VrN.norm (wrap_i64 (by omega)) ?_ | refine VrN.keep ?_ | refine Nd.mk (by decide +kernel) ?_ | refine Nd.mk (by omega) ?_ | refine RdN.intro _ rfl (by rfl) ?_); (conv => whnf))))
      obtain ⟨sp, hsp⟩ : ∃ sp : List UInt8, sp = if k = 0 then [32] else [44, 32] := ⟨_, rfl⟩
      have hspl : sp.length ≤ 2 := by rw [hsp]; split <;> simp
      refine LdN.one (a := some ⟨rb, 0, none⟩) (xs := [.string { data := #[32] }, .string { data := #[44, 32] }]) (.string (bs sp)) rfl (fun w hw => hw.2.2.2.2.1) ?_ ?_
      · rw [hsp]
        rcases Nat.eq_zero_or_pos k with hk0 | hk0
        · rw [if_pos hk0, hk0]; rfl
        · rw [if_neg (by omega), show minI (k : Int) 1 = if k = 1 then 1 else 1 by unfold minI; split <;> split <;> omega]
          split <;> rfl
      -- fun w hw => ⟨hw.2.2.2.1, (hw.2.2.1.1.2 _ hpm).1⟩: why the kind holds
      ((conv => whnf); (repeat ((first | refine Nd.mk (fun w hw => ⟨hw.2.2.2.1, (hw.2.2.1.1.2 _ hpm).1⟩) ?_ | refine VrN.norm (wrap_i64 (by omega)) ?_ | refine VrN.keep ?_ | refine Nd.mk (by decide +kernel) ?_ | refine Nd.mk (by omega) ?_ | refine RdN.intro _ rfl (by rfl) ?_); (conv => whnf))))
      refine Nd.mk (by rw [bs_size, bs_size]; omega) ?_
      rw [bs_app]
      -- fun w hw => ⟨hw.2.2.2.1, (hw.2.2.1.1.2 _ hpm).1⟩: why the kind holds
      ((conv => whnf); (repeat ((first | refine Nd.mk (fun w hw => ⟨hw.2.2.2.1, (hw.2.2.1.1.2 _ hpm).1⟩) ?_ | refine VrN.norm (wrap_i64 (by omega)) ?_ | refine VrN.keep ?_ | refine Nd.mk (by decide +kernel) ?_ | refine Nd.mk (by omega) ?_ | refine RdN.intro _ rfl (by rfl) ?_); (conv => whnf))))
      refine Nd.mk (by show (bs (sp ++ nm)).size + 1 < _; rw [bs_size]; simp; omega) ?_
      rw [show (bs (sp ++ nm) ++ ({ data := #[61] } : ByteArray)) = bs (sp ++ nm ++ [61]) by rw [← bs_app]; rfl]
      -- fun w hw => ⟨hw.2.2.2.1, (hw.2.2.1.1.2 _ hpm).1⟩: why the kind holds
      ((conv => whnf); (repeat ((first | refine Nd.mk (fun w hw => ⟨hw.2.2.2.1, (hw.2.2.1.1.2 _ hpm).1⟩) ?_ | refine VrN.norm (wrap_i64 (by omega)) ?_ | refine VrN.keep ?_ | refine Nd.mk (by decide +kernel) ?_ | refine Nd.mk (by omega) ?_ | refine RdN.intro _ rfl (by rfl) ?_); (conv => whnf))))
      have hnd : names.getD k [] = nm := by rw [List.getD_eq_getElem?_getD, hnm]; rfl
      refine callG (WriteString_w _ _ way2 j3 true (foldT ff (preT (Cell.mk 8 num text names items)) 0 (items.take k) (out ++ ([35, 60] ++ text))) (sp ++ nm ++ [61]) i3 hi3 (by have := hfold k; simp only [List.length_append, List.length_cons, List.length_nil] at this ⊢; omega)) [0, 1, 2, 3] rfl ⟨rfl, rfl, rfl, rfl, trivial⟩ rfl fun i6 hi6 => ?_
      -- fun w hw => ⟨hw.2.2.2.1, (hw.2.2.1.1.2 _ hpm).1⟩: why the kind holds
      ((conv => whnf); (repeat ((first | refine Nd.mk (fun w hw => ⟨hw.2.2.2.1, (hw.2.2.1.1.2 _ hpm).1⟩) ?_ | refine VrN.norm (wrap_i64 (by omega)) ?_ | refine VrN.keep ?_ | refine Nd.mk (by decide +kernel) ?_ | refine Nd.mk (by omega) ?_ | refine RdN.intro _ rfl (by rfl) ?_); (conv => whnf))))
      ((conv => whnf); (repeat ((first | refine LdN.one (a := some ⟨cb, 0, none⟩) (q := 0) (xs := [_, _, _, _, _]) _ rfl (fun w hw => hw.2.2.2.1) rfl ?_ | refine LdN.one (a := some ⟨cb, 0, none⟩) (q := 1) (xs := [_, _, _, _, _]) _ rfl (fun w hw => hw.2.2.2.1) rfl ?_ | refine LdN.one (a := some ⟨cb, 0, none⟩) (q := 2) (xs := [_, _, _, _, _]) _ rfl (fun w hw => hw.2.2.2.1) rfl ?_ | refine LdN.one (a := some ⟨cb, 0, none⟩) (q := 3) (xs := [_, _, _, _, _]) _ rfl (fun w hw => hw.2.2.2.1) rfl ?_ | refine LdN.one (a := some ⟨cb, 0, none⟩) (q := 4) (xs := [_, _, _, _, _]) _ rfl (fun w hw => hw.2.2.2.1) rfl ?_ | refine RwN.own ?_ | refine VrN.norm (wrap_i64 (by omega)) ?_ | refine VrN.keep ?_ | refine Nd.mk (by decide +kernel) ?_ | refine Nd.mk (by omega) ?_ | (refine Nd.mk ?_ ?_; focus ((repeat' (first | exact trivial | exact wkE_refl _ | refine And.intro ?_ ?_)); done)) | refine RdN.intro _ rfl (by rfl) ?_); (conv => whnf))))
      refine callG (ih (by omega) (foldT ff (preT (Cell.mk 8 num text names items)) 0 (items.take k) (out ++ ([35, 60] ++ text)) ++ (sp ++ nm ++ [61])) way2 i6 j3 xn hi6 hj3 hx1 hnd2 hr2 (by omega) (by have := hfold k; simp only [List.length_append, List.length_cons, List.length_nil] at this ⊢; omega)) [0, 1, 2, 3] rfl ⟨rfl, rfl, rfl, rfl, trivial⟩ rfl fun st hst => ?_
      obtain ⟨i5, j5⟩ := st
      obtain ⟨hi5, hj5⟩ := hst
      simp only at hi5 hj5
      ((conv => whnf); (repeat ((first | refine LdN.one (a := some ⟨cb, 0, none⟩) (q := 0) (xs := [_, _, _, _, _]) _ rfl (fun w hw => hw.2.2.2.1) rfl ?_ | refine LdN.one (a := some ⟨cb, 0, none⟩) (q := 1) (xs := [_, _, _, _, _]) _ rfl (fun w hw => hw.2.2.2.1) rfl ?_ | refine LdN.one (a := some ⟨cb, 0, none⟩) (q := 2) (xs := [_, _, _, _, _]) _ rfl (fun w hw => hw.2.2.2.1) rfl ?_ | refine LdN.one (a := some ⟨cb, 0, none⟩) (q := 3) (xs := [_, _, _, _, _]) _ rfl (fun w hw => hw.2.2.2.1) rfl ?_ | refine LdN.one (a := some ⟨cb, 0, none⟩) (q := 4) (xs := [_, _, _, _, _]) _ rfl (fun w hw => hw.2.2.2.1) rfl ?_ | refine RwN.own ?_ | refine VrN.norm (wrap_i64 (by omega)) ?_ | refine VrN.keep ?_ | refine Nd.mk (by decide +kernel) ?_ | refine Nd.mk (by omega) ?_ | (refine Nd.mk ?_ ?_; focus ((repeat' (first | exact trivial | exact wkE_refl _ | refine And.intro ?_ ?_)); done)) | refine RdN.intro _ rfl (by rfl) ?_); (conv => whnf))))
      have hfs := foldT_take (f := ff) (pre := preT (Cell.mk 8 num text names items)) hx (out ++ ([35, 60] ++ text))
      rw [show preT (Cell.mk 8 num text names items) k = sp ++ nm ++ [61] from by rw [preT_8 rfl, ← hsp]; show sp ++ names.getD k [] ++ [61] = _; rw [hnd], hfx] at hfs
      refine ⟨(k + 1, i5, j5), ⟨by omega, by rw [hfs]; exact hi5, hj5⟩, by show items.length - (k + 1) < items.length - k; omega, ?_, ?_⟩
      · (repeat' (first | exact trivial | refine And.intro (by with_reducible rfl) ?_ | (with_reducible exact wkC_refl _) | (with_reducible exact wkCs_refl _) | refine And.intro ?_ ?_))
        all_goals first | rfl | exact av_int (by rw [wrap_i64 (by omega)]; omega) | exact av_int (by omega)
      · show wkH _ (wH _ _ true (foldT ff _ 0 (items.take (k + 1)) _) _ _ _ ++ _)
        rw [hfs]
        exact ⟨wkE_refl _, wkE_refl _, wkE_refl _, wkE_refl _, trivial, wkE_refl _, trivial, trivial⟩
    · have hin : k = items.length := by omega
      subst hin
      rw [List.take_length] at hi3 ⊢
      have hfe := hfold items.length
      rw [List.take_length] at hfe
      obtain ⟨wb, wc⟩ := j3
      cases wb with
      | none =>
        have := (hj3.1 rfl).1
        omega
      | some wb =>
      have hwc3 : way2.length ≤ wc := hj3.2.1
      ((conv => whnf); (repeat ((first | refine LdN.one (a := some ⟨cb, 0, none⟩) (q := 0) (xs := [_, _, _, _, _]) _ rfl (fun w hw => hw.2.2.2.1) rfl ?_ | refine LdN.one (a := some ⟨cb, 0, none⟩) (q := 1) (xs := [_, _, _, _, _]) _ rfl (fun w hw => hw.2.2.2.1) rfl ?_ | refine LdN.one (a := some ⟨cb, 0, none⟩) (q := 2) (xs := [_, _, _, _, _]) _ rfl (fun w hw => hw.2.2.2.1) rfl ?_ | refine LdN.one (a := some ⟨cb, 0, none⟩) (q := 3) (xs := [_, _, _, _, _]) _ rfl (fun w hw => hw.2.2.2.1) rfl ?_ | refine LdN.one (a := some ⟨cb, 0, none⟩) (q := 4) (xs := [_, _, _, _, _]) _ rfl (fun w hw => hw.2.2.2.1) rfl ?_ | refine RwN.own ?_ | refine VrN.norm (wrap_i64 (by omega)) ?_ | refine VrN.keep ?_ | refine Nd.mk (by decide +kernel) ?_ | refine Nd.mk (by omega) ?_ | (refine Nd.mk ?_ ?_; focus ((repeat' (first | exact trivial | exact wkE_refl _ | refine And.intro ?_ ?_)); done)) | refine RdN.intro _ rfl (by rfl) ?_); (conv => whnf))))
      refine callG (WriteString_w _ _ way2 ⟨some wb, wc⟩ true (foldT ff (preT (Cell.mk 8 num text names items)) 0 items (out ++ ([35, 60] ++ text))) [62] i3 hi3 (by simp only [List.length_cons, List.length_nil]; omega)) [0, 1, 2, 3] rfl ⟨rfl, rfl, rfl, rfl, trivial⟩ rfl fun i7 hi7 => ?_
      ((conv => whnf); (repeat ((first | refine LdN.one (a := some ⟨cb, 0, none⟩) (q := 0) (xs := [_, _, _, _, _]) _ rfl (fun w hw => hw.2.2.2.1) rfl ?_ | refine LdN.one (a := some ⟨cb, 0, none⟩) (q := 1) (xs := [_, _, _, _, _]) _ rfl (fun w hw => hw.2.2.2.1) rfl ?_ | refine LdN.one (a := some ⟨cb, 0, none⟩) (q := 2) (xs := [_, _, _, _, _]) _ rfl (fun w hw => hw.2.2.2.1) rfl ?_ | refine LdN.one (a := some ⟨cb, 0, none⟩) (q := 3) (xs := [_, _, _, _, _]) _ rfl (fun w hw => hw.2.2.2.1) rfl ?_ | refine LdN.one (a := some ⟨cb, 0, none⟩) (q := 4) (xs := [_, _, _, _, _]) _ rfl (fun w hw => hw.2.2.2.1) rfl ?_ | refine RwN.own ?_ | refine VrN.norm (wrap_i64 (by omega)) ?_ | refine VrN.keep ?_ | refine Nd.mk (by decide +kernel) ?_ | refine Nd.mk (by omega) ?_ | (refine Nd.mk ?_ ?_; focus ((repeat' (first | exact trivial | exact wkE_refl _ | refine And.intro ?_ ?_)); done)) | refine RdN.intro _ rfl (by rfl) ?_); (conv => whnf))))
      -- i7: the Builder's place
      refine DrawN.plan [0, 1, 5] [(2, 1), (3, 1), (4, 1), (6, 1), (7, 1), (8, 1), (9, 1), (10, 1), (11, 1), (12, 1), (13, 1)] [(14, 0)] (by decide +kernel) ?_
      (first | refine wXD ?_ | exact wZD)
      rw [show IntKind.i64.wrap ((way2.length : Int) - 1) = (way.length : Int) by rw [wrap_i64 (by omega)]; omega]
      refine ReadW.slc_hi rfl (by kernel_rfl) rfl rfl (by show (0 : Int) ≤ (way.length : Int) ∧ (way.length : Int) ≤ (wc : Int); omega) ?_
      rw [Int.toNat_natCast]
      (first | refine wXD ?_ | exact wZD)
      refine ⟨(i7, ⟨some wb, wc⟩), ⟨hi7, (fun h => by cases h), by show way.length ≤ wc; omega, fun h => by have : wc = 0 := h; omega⟩, rfl, ⟨rfl, rfl, rfl, rfl, rfl, trivial⟩, wkE_refl _, .inr (.inr ⟨rfl, rfl, ?_, rfl, by omega, rfl⟩), wkE_refl _, trivial⟩
      rw [hway2, Nat.mul_one]
      simp [iC]
end Go.Proofs.YtahjbnfbilkbcaaGreatDoor

/-
  Contract: Text (program).
-/
namespace Go.Proofs.YtahjbnfbilkbcaaGreatDoor
open Go.AX Go.RowKit Go.Core Go.Scan
set_option maxRecDepth 20000

/-- The text that is told. -/
def textP (lf : Cell → List UInt8) (g : List Cell) (u : Int) : List UInt8 := (writeS 20000 lf g (g.length + 2) [] [] u).take 20000
set_option maxHeartbeats 4000000 in
theorem Text_c {a : Option Addr} (ca : Nat) {l : List CellP} {E : World → Prop} {qt : List UInt8 → List UInt8} {it : Int → List UInt8} (ha : a = none → l = []) (hs : Small l) (hok : ∀ p ∈ l, CellOk p) (V : ValidP (l.map (·.c)) → WEnv a l E qt it) (u : Int) :
    ∀ H, (∀ w, Facts H w → gF a l E w) → ∃ e : Bool, (e = true ↔ AskP (l.map (·.c)) [u]) ∧ SpecH Tryz.prog 20 (pvs [.slice a l.length ca, .int .i64 u]) H (Ret (.tuple #[.string (bs (if e then textP (leafS qt it) (l.map (·.c)) u else [])), errI e]) H) := by
  intro H hH
  obtain ⟨e, he⟩ : ∃ b : Bool, b = true ↔ AskP (l.map (·.c)) [u] := by
    by_cases h : AskP (l.map (·.c)) [u]
    · exact ⟨true, fun _ => h, fun _ => rfl⟩
    · exact ⟨false, (fun h => by cases h), fun h2 => absurd h2 h⟩
  refine ⟨e, he, ?_⟩
  refine factC hm Tryz.func20 (by kernel_rfl) rfl rfl ?_ H hH
  ((conv => whnf); (repeat ((first | refine BoxN.own ?_ | refine VrN.norm (wrap_i64 (by omega)) ?_ | refine VrN.keep ?_ | refine DrawN.calm (by decide +kernel) ?_ | refine Nd.mk (by decide +kernel) ?_ | refine Nd.mk (by omega) ?_ | (refine Nd.mk ?_ ?_; focus ((repeat' (first | exact trivial | exact wkE_refl _ | refine And.intro ?_ ?_)); done)) | refine RdN.intro _ rfl (by rfl) ?_); (conv => whnf))))
  refine RwN.known [.int .i64 u] rfl fun rb => ?_
  ((conv => whnf); (repeat ((first | refine BoxN.own ?_ | refine VrN.norm (wrap_i64 (by omega)) ?_ | refine VrN.keep ?_ | refine DrawN.calm (by decide +kernel) ?_ | refine Nd.mk (by decide +kernel) ?_ | refine Nd.mk (by omega) ?_ | (refine Nd.mk ?_ ?_; focus ((repeat' (first | exact trivial | exact wkE_refl _ | refine And.intro ?_ ?_)); done)) | refine RdN.intro _ rfl (by rfl) ?_); (conv => whnf))))
  obtain ⟨t, ht1, ht2⟩ := asked_c a ca l ha hs hok (some ⟨rb, 0, none⟩) 1 [u] (fun h => by cases h) (by simp) [.fact (gF a l E), .app 3 1 [.int .i64 u] (some ⟨rb, 0, none⟩) 1 1] (fun w hw => ⟨hw.1.1, hw.2.1⟩)
  obtain rfl : t = e := by rw [Bool.eq_iff_iff, ht1, he]
  refine call1 ht2 ?_
  cases t with
  | false =>
    (first | refine wX ?_ | exact wZ)
    rfl
  | true =>
    have hask := he.1 rfl
    have hu := hask.2 u (by simp)
    obtain ⟨v, rfl⟩ : ∃ v : Nat, u = (v : Int) := ⟨u.toNat, by omega⟩
    have hgl : (l.map (·.c)).length = l.length := by simp
    have h500 := hask.1.1
    have hwe := V hask.1
    (first | refine wX ?_ | exact wZ)
    refine SpecH.pad [.app 5 1 [] none 0 0, .app 3 1 [] none 0 0] rfl ?_
    have hok0 : BSt.ok (0 : Nat) ⟨none, 0⟩ := ⟨fun _ => ⟨rfl, rfl⟩, Nat.le_refl _, fun _ => rfl⟩
    refine callG (write_f ca hwe (l.length + 1) (by omega) [] [] ⟨none, 0⟩ ⟨none, 0⟩ v hok0 hok0 (by omega) List.nodup_nil (fun x hx => by cases hx) (by simp) (by simp)) [2, 3, 4, 0] rfl ⟨rfl, rfl, rfl, rfl, trivial⟩ rfl fun st hst => ?_
    obtain ⟨i2, j2⟩ := st
    obtain ⟨hi2, hj2⟩ := hst
    simp only at hi2 hj2
    have htp : textP (leafS qt it) (l.map (·.c)) (v : Int) = (writeS 20000 (leafS qt it) (l.map (·.c)) (l.length + 1 + 1) [] [] (v : Int)).take 20000 := by unfold textP; rw [hgl]
    rw [htp]
    generalize writeS 20000 (leafS qt it) (l.map (·.c)) (l.length + 1 + 1) [] [] (v : Int) = T at *
    (first | refine wX ?_ | exact wZ)
    refine callG (String_w _ _ [] j2 true T i2 hi2) [2, 3, 4, 0] rfl ⟨rfl, rfl, rfl, rfl, trivial⟩ rfl fun _ _ => ?_
    (first | refine wX ?_ | exact wZ)
    rw [bs_size]
    refine ReadW.sl_h (min T.length 20000) rfl Tryz.underlying9 rfl rfl ⟨by unfold minI; split <;> omega, Nat.min_le_left _ _⟩ ?_
    rw [show T.take (min T.length 20000) = T.take 20000 by
      rcases Nat.le_total T.length 20000 with h | h
      · rw [Nat.min_eq_left h, List.take_of_length_le (Nat.le_refl _), List.take_of_length_le h]
      · rw [Nat.min_eq_right h]]
    (first | refine wX ?_ | exact wZ)
    rfl
end Go.Proofs.YtahjbnfbilkbcaaGreatDoor

/-
  Plain: the text of an array is that of its items.
-/
namespace Go.Core
end Go.Core

/-
  AX, fifty-third text: maps with numbers as keys, as lists of pairs: asked, written.
-/
namespace Go.AX

def seek {α : Type} [DecidableEq α] (k : α) : List (α × Value) → Nat → Option (Nat × Value)
  | [], _ => none
  | (q, v) :: R, i => if k = q then some (i, v) else seek k R (i + 1)
def upd {α : Type} [DecidableEq α] (k : α) (v : Value) : List (α × Value) → List (α × Value)
  | [] => [(k, v)]
  | (q, x) :: R => if k = q then (q, v) :: R else (q, x) :: upd k v R
theorem seek_look {α : Type} [DecidableEq α] (k : α) : ∀ (R : List (α × Value)) (i : Nat), (seek k R i).map Prod.snd = R.lookup k
  | [], _ => rfl
  | (q, v) :: R, i => by
    unfold seek
    rw [List.lookup_cons]
    by_cases h : k = q
    · subst h
      rw [if_pos rfl, beq_self_eq_true]
      rfl
    · rw [if_neg h, show (k == q) = false by simp [h]]
      exact seek_look k R (i + 1)
theorem look_upd {α : Type} [DecidableEq α] (k j : α) (v : Value) : ∀ R : List (α × Value), (upd k v R).lookup j = if j = k then some v else R.lookup j
  | [] => by
    unfold upd
    rw [List.lookup_cons]
    by_cases h : j = k
    · subst h; simp
    · rw [if_neg h, show (j == k) = false by simp [h]]
  | (q, x) :: R => by
    unfold upd
    have ih := look_upd k j v R
    by_cases h : k = q
    · subst h
      rw [if_pos rfl, List.lookup_cons, List.lookup_cons]
      by_cases h2 : j = k
      · subst h2; simp
      · rw [if_neg h2, show (j == k) = false by simp [h2]]
    · rw [if_neg h, List.lookup_cons, List.lookup_cons, ih]
      by_cases h2 : j = q
      · subst h2
        rw [beq_self_eq_true]
        simp only
        rw [if_neg (fun e => h e.symm)]
      · rw [show (j == q) = false by simp [h2]]
theorem seek_ge {α : Type} [DecidableEq α] (k : α) : ∀ (R : List (α × Value)) (i j : Nat) (v : Value), seek k R i = some (j, v) → i ≤ j
  | [], _, _, _, h => by cases h
  | (q, x) :: R, i, j, v, h => by
    unfold seek at h
    split at h
    · cases h; exact Nat.le_refl _
    · have := seek_ge k R (i + 1) j v h; omega
/-- What a map holds; its keys are told by enc. -/
def KeysAre {α : Type} (enc : α → Value) (es : List MapEntry) (R : List (α × Value)) : Prop := es.map (fun e => (e.key, e.val)) = R.map fun r => (enc r.1, r.2)
section
variable {α : Type} [DecidableEq α] {enc : α → Value}
theorem KeysAre.put {k : α} {v : Value} {born : Nat} : ∀ {es : List MapEntry} {R : List (α × Value)} {i : Nat}, KeysAre enc es R → seek k R i = none → KeysAre enc (es ++ [{ key := enc k, val := v, born := born }]) (upd k v R)
  | [], [], _, _, _ => rfl
  | [], _ :: _, _, h, _ => by cases h
  | _ :: _, [], _, h, _ => by cases h
  | e :: es, (q, x) :: R, i, h, hs => by
    unfold KeysAre at h
    simp only [List.map_cons, List.cons.injEq] at h
    unfold seek at hs
    split at hs
    · cases hs
    · rename_i hk
      have ih := KeysAre.put (v := v) (born := born) (es := es) (R := R) h.2 hs
      unfold upd
      rw [if_neg hk]
      unfold KeysAre at ih ⊢
      rw [List.cons_append, List.map_cons, List.map_cons, ih, h.1]
theorem KeysAre.set {k : α} {v : Value} : ∀ {es : List MapEntry} {R : List (α × Value)} {i j : Nat} {x : Value}, KeysAre enc es R → seek k R i = some (i + j, x) → KeysAre enc (es.modify j fun e => { e with key := enc k, val := v }) (upd k v R) ∧ ∃ e, es[j]? = some e ∧ e.key = enc k
  | [], [], _, _, _, _, hs => by cases hs
  | [], _ :: _, _, _, _, h, _ => by cases h
  | _ :: _, [], _, _, _, h, _ => by cases h
  | e :: es, (q, y) :: R, i, j, x, h, hs => by
    unfold KeysAre at h
    simp only [List.map_cons, List.cons.injEq] at h
    unfold seek at hs
    unfold upd
    split at hs
    · rename_i hk
      subst hk
      simp only [Option.some.injEq, Prod.mk.injEq] at hs
      obtain rfl : j = 0 := by omega
      rw [if_pos rfl]
      refine ⟨?_, e, rfl, congrArg Prod.fst h.1⟩
      unfold KeysAre
      show _ :: List.map _ es = _ :: _
      rw [h.2]
    · rename_i hk
      have hge := seek_ge k R (i + 1) (i + j) x hs
      obtain ⟨j, rfl⟩ : ∃ j2, j = j2 + 1 := ⟨j - 1, by omega⟩
      obtain ⟨h1, e2, h2, h3⟩ := KeysAre.set (v := v) (es := es) (R := R) (i := i + 1) (j := j) (x := x) h.2 (by rw [hs]; congr 2; omega)
      rw [if_neg hk]
      refine ⟨?_, e2, h2, h3⟩
      unfold KeysAre at h1 ⊢
      rw [show List.modify (e :: es) (j + 1) (fun e => { e with key := enc k, val := v }) = e :: List.modify es j (fun e => { e with key := enc k, val := v }) from rfl, List.map_cons, List.map_cons, h1, h.1]
end
/-- What is asked of a type of keys. -/
structure KeyT (P : Program) (kt : TypeId) {α : Type} [DecidableEq α] (enc : α → Value) : Prop where
  check : ∀ (w : World) (e : Bool) (k : α), (Instr.checkKey e 10000 kt (enc k)).run P w = .ok () w
  find : ∀ (w : World) (k : α) (es : List MapEntry) (R : List (α × Value)), KeysAre enc es R → (Instr.findKey kt (enc k) es).run P w = .ok (seek k R 0) w
  stay : ∀ (w : World) (k : α), (Instr.keyThatStays (enc k) (enc k)).run P w = .ok (enc k) w
section
variable {P : Program} {o : Oper} {s : List AV} {H : List Ent} {t kt et : TypeId} {m k : Operand} {b c : Nat} {es : Array MapEntry} {α : Type} [DecidableEq α] {enc : α → Value} {p : α}
/-- m[k] -/
theorem ReadW.keyMap {K : AV → Prop} {inf : TypeInfo} {z : Value} (R : List (α × Value)) (ho : o.op = .lookup t m k false) (ht : P.underlying t = some (.map kt et)) (hkt : KeyT P kt enc) (hi : P.info? et = some inf) (hz : inf.zero = some z)
    (hm : opv s m = .c (.v (.map (some b)))) (hk : opv s k = .c (.v (enc p))) (hF : ∀ w, Facts H w → w.heap[b]? = some (.map es c)) (hf : KeysAre enc es.toList R) (h : K (.c (.v ((R.lookup p).getD z)))) : ReadW P o s H K :=
  ReadW.val ((R.lookup p).getD z) (fun cs b e => by rw [ho] at e; cases e) (by rw [ho]; show allPlain s [m, k] = true; simp [allPlain, hm, hk]) (fun w hw => by
    have hb := hF w hw
    have hc := hkt.check w es.isEmpty p
    have hj := hkt.find w p es.toList R hf
    have hlk := seek_look p R 0
    have hrun : (Instr.lookup t (.map (some b)) (enc p) false).run P w = .ok ((R.lookup p).getD z) w := by
      cases hr : seek p R 0 with
      | none => rw [hr] at hj hlk; rw [← hlk]; simp [Instr.lookup, run_underlying ht, MapKept.run_getObj_map hb, hc, hj, Result.andThen, run_zeroValue hi hz]
      | some q => rw [hr] at hj hlk; rw [← hlk]; simp [Instr.lookup, run_underlying ht, MapKept.run_getObj_map hb, hc, hj, Result.andThen]
    unfold execOp
    simp only [ho, plainEv_v hm, plainEv_v hk, Sem.run_bind, hrun, Result.andThen_ok, Sem.run_pure]) h
/-- m[k] = v -/
theorem EffW.setMap {K : AV → List Ent → Prop} {x : Operand} {val : Value} (i : Nat) (R : List (α × Value)) (ho : o.op = .mapUpdate t m k x) (ht : P.underlying t = some (.map kt et)) (hkt : KeyT P kt enc)
    (hm : opv s m = .c (.v (.map (some b)))) (hk : opv s k = .c (.v (enc p))) (hx : opv s x = .c (.v val)) (hi : nthE H i = some (.mp b es c)) (hf : KeysAre enc es.toList R)
    (next : ∀ es' c', KeysAre enc es'.toList (upd p val R) → setEK H i (.mp b es' c') fun H' => K (.c .any) H') : EffW P o s H K := by
  rw [nthE_eq] at hi
  obtain ⟨es', c', hnew, hrun⟩ : ∃ es' c', KeysAre enc es'.toList (upd p val R) ∧ ∀ w : World, w.heap[b]? = some (.map es c) → (Instr.mapUpdate t (.map (some b)) (enc p) val).run P w = .ok () { w with heap := w.heap.setIfInBounds b (.map es' c') } := by
    cases hr : seek p R 0 with
    | none =>
      refine ⟨es.push { key := enc p, val := val, born := c }, c + 1, by rw [Array.toList_push]; exact hf.put hr, fun w hb => ?_⟩
      have hj := hkt.find w p es.toList R hf
      rw [hr] at hj
      simp [Instr.mapUpdate, run_underlying ht, MapKept.run_getObj_map hb, hkt.check w false p, hj, MapKept.run_setObj_map _ hb, Result.andThen]
    | some q =>
      obtain ⟨j, v0⟩ := q
      obtain ⟨h1, e, h2, h3⟩ := hf.set (v := val) (i := 0) (j := j) (x := v0) (by rw [Nat.zero_add]; exact hr)
      refine ⟨es.modify j fun e => { e with key := enc p, val := val }, c, by rw [Array.toList_modify]; exact h1, fun w hb => ?_⟩
      have hj := hkt.find w p es.toList R hf
      rw [hr] at hj
      have h2' : es[j]? = some e := by rw [← h2]; simp
      have hst : (Instr.keyThatStays (((es[j]?).map (·.key)).getD (enc p)) (enc p)).run P w = .ok (enc p) w := by
        rw [h2']
        show (Instr.keyThatStays e.key (enc p)).run P w = _
        rw [h3]
        exact hkt.stay w p
      simp only [Instr.mapUpdate, Sem.run_bind, run_underlying ht, Result.andThen_ok, MapKept.run_getObj_map hb, hkt.check w false p, hj, hst, MapKept.run_setObj_map _ hb]
  obtain ⟨_, hk2⟩ := setEK_spec (next es' c' hnew)
  refine Effs.w (fun ρ S w a hs hr => ?_) hk2
  have h1 : a.eval m = .map (some b) := by have := opv_rel hr m; rw [hm] at this; exact this
  have h2 : a.eval k = enc p := by have := opv_rel hr k; rw [hk] at this; exact this
  have h3 : a.eval x = val := by have := opv_rel hr x; rw [hx] at this; exact this
  have hb : w.heap[b]? = some (.map es c) := hs.ent i _ hi
  have hbl : b < w.heap.size := (Array.getElem?_eq_some_iff.1 hb).1
  have hS := hs.setG (e' := .mp b es' c') (c := b) (w' := { w with heap := w.heap.setIfInBounds b (.map es' c') }) hi rfl (by simp) (fun j _ hne => by simp [Ne.symm hne]) rfl rfl rfl (fun _ hc => .inl (Option.some.inj hc).symm) (by show (w.heap.setIfInBounds b _)[b]? = _; simp [hbl])
  refine ⟨.skip, undef, ρ, _, ?_, .inr ⟨rfl, rfl⟩, hS.1, hS.2, trivial⟩
  unfold execOp
  simp only [ho, h1, h2, h3, Sem.run_bind, Sem.run_pure, hrun w hb, Result.andThen_ok]
end
end Go.AX

/-
  Contract: what is reached (program).
-/
namespace Go.Core
def seenI (L : List Int) : List (Int × Value) := L.map fun i => (i, .bool true)
end Go.Core
namespace Go.Proofs.YtahjbnfbilkbcaaGreatDoor
open Go.AX Go.RowKit Go.Core
set_option maxRecDepth 20000

structure WSt where
  es : Array MapEntry
  c : Nat
  o : BSt
def WSt.ok (L : List Int) (st : WSt) : Prop := KeysAre (fun k : Int => .int .i64 k) st.es.toList (seenI L) ∧ st.o.ok L.length
end Go.Proofs.YtahjbnfbilkbcaaGreatDoor

/-
  Contracts: what a list has; what a cell's text begins and ends with (document).
-/
namespace Go.Core
end Go.Core
namespace Go.Proofs.YtahjbnfbilkbcaaGreatDoor
open Go.AX Go.RowKit Go.Core Go.Scan
set_option maxRecDepth 20000

end Go.Proofs.YtahjbnfbilkbcaaGreatDoor

/-
  Contract: strings.NewReplacer: a struct at a known address that holds the texts.
-/
namespace Go.Proofs.YtahjbnfbilkbcaaGreatDoor
open Go.AX Go.RowKit
set_option maxRecDepth 20000

end Go.Proofs.YtahjbnfbilkbcaaGreatDoor

/-
  Contract: (*strings.byteStringReplacer).Replace: each byte replaced by what the table holds.
-/
namespace Go.Proofs.YtahjbnfbilkbcaaGreatDoor
open Go.AX Go.RowKit
set_option maxRecDepth 20000

end Go.Proofs.YtahjbnfbilkbcaaGreatDoor

/-
  sync.Once, one goroutine: the parts of its slow road, after the kit's worked LazyParts.
-/
namespace Go.Proofs.YtahjbnfbilkbcaaGreatDoor
set_option maxRecDepth 100000
set_option maxHeartbeats 1600000

end Go.Proofs.YtahjbnfbilkbcaaGreatDoor

/-
  sync.Once, one goroutine: Do, not yet done and its lock free, of a function by its contract; Do, done already.
-/
namespace Go.Proofs.YtahjbnfbilkbcaaGreatDoor
set_option maxRecDepth 100000
set_option maxHeartbeats 3200000

end Go.Proofs.YtahjbnfbilkbcaaGreatDoor

/-
  Contract: Quote of the document.
-/
namespace Go.Proofs.YtahjbnfbilkbcaaGreatDoor
open Go.AX Go.RowKit Go.Scan
set_option maxRecDepth 20000

/-- A byte as the language writes it. -/
def qt (c : UInt8) : List UInt8 := if c == 92 then [92, 92] else if c == 34 then [92, 34] else if c == 35 then [92, 35] else if c == 10 then [92, 110] else if c == 0 then [92, 48] else [c]
end Go.Proofs.YtahjbnfbilkbcaaGreatDoor

/-
  The table of bytes that are replaced, as it is filled.
-/
namespace Go.Proofs.YtahjbnfbilkbcaaGreatDoor
open Go.AX Go.RowKit
set_option maxRecDepth 20000

end Go.Proofs.YtahjbnfbilkbcaaGreatDoor

/-
  Contract: (*strings.Replacer).Replace, for the first time: the bytes that Quote replaces.
-/
namespace Go.Proofs.YtahjbnfbilkbcaaGreatDoor
open Go.AX Go.RowKit
set_option maxRecDepth 20000

end Go.Proofs.YtahjbnfbilkbcaaGreatDoor

/-
  Contract: Quote (program).
-/
namespace Go.Proofs.YtahjbnfbilkbcaaGreatDoor
open Go.AX Go.RowKit Go.Scan
set_option maxRecDepth 20000

end Go.Proofs.YtahjbnfbilkbcaaGreatDoor

/-
  Numbers and quoted texts, as both writers write them.
-/
namespace Go.Proofs.YtahjbnfbilkbcaaGreatDoor
open Go.AX Go.RowKit Go.Core Go.Scan
set_option maxRecDepth 20000

end Go.Proofs.YtahjbnfbilkbcaaGreatDoor

/-
  Contract: the document writes a cell.
-/
namespace Go.Core
end Go.Core
namespace Go.Proofs.YtahjbnfbilkbcaaGreatDoor
open Go.AX Go.RowKit Go.Core Go.Scan
set_option maxRecDepth 20000

section
attribute [local irreducible] Int.decLt
end
end Go.Proofs.YtahjbnfbilkbcaaGreatDoor

/-
  Contract: the first example of the chapter (law).
-/
namespace Go.Proofs.YtahjbnfbilkbcaaGreatDoor
open Go.AX Go.RowKit Go.Core Go.Scan
set_option maxRecDepth 20000

def exC : Cell := ⟨6, 0, [], [], [0]⟩
def exP (ib : Nat) : CellP := ⟨exC, none, 0, some ⟨ib, 0, none⟩, 1⟩
def qI (s : List UInt8) : List UInt8 := s
def iI (_ : Int) : List UInt8 := []
theorem ex_val : ValidP [exC] := ⟨by decide, fun c hc => by rw [List.mem_singleton.1 hc]; decide, fun c hc h => by rw [List.mem_singleton.1 hc] at h; exact absurd h (by decide)⟩
theorem ex_ask : AskP [exC] [0] := ⟨ex_val, fun x hx => by rw [List.mem_singleton.1 hx]; decide⟩
theorem ex_text : textP (leafS qI iI) [exC] 0 = [91, 91, 46, 46, 46, 93, 93] := by decide +kernel
theorem ex_env (ib gb : Nat) : WEnv (some ⟨gb, 0, none⟩) [exP ib] (fun _ => True) qI iI := by
  refine ⟨(fun h => by cases h), ⟨by simp, fun p hp => ?_⟩, fun p hp => ?_, ex_val, fun p hp h => ?_, fun s => ?_, fun p hp h => ?_, fun x => Nat.zero_le _⟩
  · rw [List.mem_singleton.1 hp]; exact ⟨by show (0 : Nat) ≤ 2000; omega, by show (1 : Nat) ≤ 2000; omega⟩
  · rw [List.mem_singleton.1 hp]
    exact ⟨(fun _ => rfl), (fun h => by cases h), by show (0 : Nat) ≤ _; omega, by show (1 : Nat) ≤ _; omega, (fun s hs => by cases hs), by show (0 : Nat) ≤ _; omega, Nat.le_refl _, Nat.le_refl _⟩
  · rw [List.mem_singleton.1 hp] at h; exact absurd (show (6 : Int) = 4 from h) (by decide)
  · show s.length ≤ 2 * s.length; omega
  · rw [List.mem_singleton.1 hp] at h; exact absurd (show (6 : Int) = 3 from h) (by decide)
set_option maxHeartbeats 4000000 in
theorem sane_c : ∀ H, SpecH Tryz.prog 15 (pvs []) H (Ret (.bool true) H) := by
  refine pureC hm Tryz.func15 (by kernel_rfl) rfl rfl ?_
  ((conv => whnf); (repeat ((first | refine BoxN.own ?_ | refine VrN.norm (wrap_i64 (by omega)) ?_ | refine VrN.keep ?_ | refine DrawN.calm (by decide +kernel) ?_ | refine Nd.mk (by decide +kernel) ?_ | refine Nd.mk (by omega) ?_ | (refine Nd.mk ?_ ?_; focus ((repeat' (first | exact trivial | exact wkE_refl _ | refine And.intro ?_ ?_)); done)) | refine RdN.intro _ rfl (by rfl) ?_); (conv => whnf))))
  refine RwN.known [.int .i64 0] rfl fun ib => ?_
  ((conv => whnf); (repeat ((first | refine BoxN.own ?_ | refine VrN.norm (wrap_i64 (by omega)) ?_ | refine VrN.keep ?_ | refine DrawN.calm (by decide +kernel) ?_ | refine Nd.mk (by decide +kernel) ?_ | refine Nd.mk (by omega) ?_ | (refine Nd.mk ?_ ?_; focus ((repeat' (first | exact trivial | exact wkE_refl _ | refine And.intro ?_ ?_)); done)) | refine RdN.intro _ rfl (by rfl) ?_); (conv => whnf))))
  refine RwN.known [.int .i64 6, .int .i64 0, .string { data := #[] }, .slice none 0 0, .slice (some ⟨ib, 0, none⟩) 1 1] rfl fun gb => ?_
  ((conv => whnf); (repeat ((first | refine BoxN.own ?_ | refine VrN.norm (wrap_i64 (by omega)) ?_ | refine VrN.keep ?_ | refine DrawN.calm (by decide +kernel) ?_ | refine Nd.mk (by decide +kernel) ?_ | refine Nd.mk (by omega) ?_ | (refine Nd.mk ?_ ?_; focus ((repeat' (first | exact trivial | exact wkE_refl _ | refine And.intro ?_ ?_)); done)) | refine RdN.intro _ rfl (by rfl) ?_); (conv => whnf))))
  have he := ex_env ib gb
  obtain ⟨e, he1, he2⟩ := Text_c (E := fun _ => True) 1 he.ha he.sm he.ok (fun _ => he) 0 [.app 3 1 [.int .i64 0] (some ⟨ib, 0, none⟩) 1 1, .app 42 5 [.int .i64 6, .int .i64 0, .string { data := #[] }, .slice none 0 0, .slice (some ⟨ib, 0, none⟩) 1 1] (some ⟨gb, 0, none⟩) 1 1] (fun w hw => ⟨⟨hw.2.1, fun p hp => by
    rw [List.mem_singleton.1 hp]
    exact ⟨SlAt.nil, hw.1⟩⟩, trivial⟩)
  obtain rfl : e = true := he1.2 ex_ask
  have hx : (if true = true then textP (leafS qI iI) ([exP ib].map (·.c)) 0 else []) = [91, 91, 46, 46, 46, 93, 93] := ex_text
  rw [hx] at he2
  refine call1 he2 ?_
  (first | refine wX ?_ | exact wZ)
  rfl
end Go.Proofs.YtahjbnfbilkbcaaGreatDoor

/-
  Contracts: Is and Text (document); CoreTexts (law).
-/
namespace Go.Proofs.YtahjbnfbilkbcaaGreatDoor
open Go.AX Go.RowKit Go.Core Go.Scan
set_option maxRecDepth 20000

end Go.Proofs.YtahjbnfbilkbcaaGreatDoor

/-
  Contracts: reach, Reach (program).
-/
namespace Go.Proofs.YtahjbnfbilkbcaaGreatDoor
open Go.AX Go.RowKit Go.Core
set_option maxRecDepth 20000

end Go.Proofs.YtahjbnfbilkbcaaGreatDoor

/-
  Contracts: slices.ContainsFunc of numbers, by a closure that writes a map; circular (program).
-/
namespace Go.Core
end Go.Core
namespace Go.Proofs.YtahjbnfbilkbcaaGreatDoor
open Go.AX Go.RowKit Go.Core
set_option maxRecDepth 20000

def colour (u d : List Int) (i : Int) : Int := if i ∈ u then 1 else if i ∈ d then 2 else 0
def okC (u d : List Int) (st : Array MapEntry × Nat) : Prop := ∃ R : List (Int × Value), KeysAre (fun k : Int => .int .i64 k) st.1.toList R ∧ ∀ i, (R.lookup i).getD (.int .i64 0) = .int .i64 (colour u d i)
end Go.Proofs.YtahjbnfbilkbcaaGreatDoor

/-
  Contract: how deep (program).
-/
namespace Go.Proofs.YtahjbnfbilkbcaaGreatDoor
open Go.AX Go.RowKit Go.Core
set_option maxRecDepth 20000

end Go.Proofs.YtahjbnfbilkbcaaGreatDoor

/-
  Contract: the document's list of pairs (equal).
-/
namespace Go.Core
/-- A pair's place among all. -/
def idxP (n : Nat) (p : Int × Int) : Nat := p.1.toNat * n + p.2.toNat
theorem idxP_lt {g : List Cell} {p : Int × Int} (h : InP g p) : idxP g.length p < g.length * g.length := by
  obtain ⟨⟨h1, h2⟩, h3, h4⟩ := h
  unfold idxP
  have : (p.1.toNat + 1) * g.length ≤ g.length * g.length := Nat.mul_le_mul_right _ (by omega)
  rw [Nat.add_mul, Nat.one_mul] at this
  omega
theorem idxP_inj {g : List Cell} {p q : Int × Int} (hp : InP g p) (hq : InP g q) (h : idxP g.length p = idxP g.length q) : p = q := by
  obtain ⟨⟨a1, a2⟩, a3, a4⟩ := hp
  obtain ⟨⟨b1, b2⟩, b3, b4⟩ := hq
  unfold idxP at h
  have m1 : (p.1.toNat * g.length + p.2.toNat) % g.length = p.2.toNat := by rw [Nat.mul_add_mod_self_right]; exact Nat.mod_eq_of_lt (by omega)
  have m2 : (q.1.toNat * g.length + q.2.toNat) % g.length = q.2.toNat := by rw [Nat.mul_add_mod_self_right]; exact Nat.mod_eq_of_lt (by omega)
  have hz : p.2.toNat = q.2.toNat := by rw [← m1, ← m2, h]
  have hx : p.1.toNat = q.1.toNat := Nat.eq_of_mul_eq_mul_right (show 0 < g.length by omega) (by omega)
  exact Prod.ext (by omega) (by omega)
/-- Which pairs were seen. -/
structure SeenS (g : List Cell) (l : List (Int × Int)) (S : List Bool) : Prop where
  len : S.length = g.length * g.length
  get : ∀ p, InP g p → S[idxP g.length p]? = some (decide (p ∈ l))
theorem SeenS.none (g : List Cell) : SeenS g [] (List.replicate (g.length * g.length) false) := ⟨by simp, fun p hp => by rw [List.getElem?_replicate, if_pos (idxP_lt hp)]; simp⟩
theorem SeenS.put {g : List Cell} {l : List (Int × Int)} {S : List Bool} (h : SeenS g l S) {p : Int × Int} (hp : InP g p) : SeenS g (l ++ [p]) (S.set (idxP g.length p) true) := by
  refine ⟨by rw [List.length_set, h.len], fun q hq => ?_⟩
  by_cases e : q = p
  · subst e
    rw [List.getElem?_set_self (by rw [h.len]; exact idxP_lt hq)]
    simp
  · rw [List.getElem?_set_ne (fun he => e (idxP_inj hp hq he).symm), h.get q hq]
    simp [e]
end Go.Core
namespace Go.Proofs.YtahjbnfbilkbcaaGreatDoor
open Go.AX Go.RowKit Go.Core
set_option maxRecDepth 20000

end Go.Proofs.YtahjbnfbilkbcaaGreatDoor

/-
  Contracts: OneKey, Equal (document), OneKey (program); CoreEquals (law).
-/
namespace Go.Core
end Go.Core
namespace Go.Proofs.YtahjbnfbilkbcaaGreatDoor
open Go.AX Go.RowKit Go.Core
set_option maxRecDepth 20000

theorem ask_bool (g : List Cell) (cs : List Int) : ∃ b : Bool, b = true ↔ AskP g cs := by
  by_cases h : AskP g cs
  · exact ⟨true, fun _ => h, fun _ => rfl⟩
  · exact ⟨false, (fun h => by cases h), fun h2 => absurd h2 h⟩
end Go.Proofs.YtahjbnfbilkbcaaGreatDoor

/-
  Contracts: Reach, Circular, Depth (program).
-/
namespace Go.Proofs.YtahjbnfbilkbcaaGreatDoor
open Go.AX Go.RowKit Go.Core
set_option maxRecDepth 20000

end Go.Proofs.YtahjbnfbilkbcaaGreatDoor

/-
  Contracts: what is reached, whether a circle is, how deep (document).
-/
namespace Go.Proofs.YtahjbnfbilkbcaaGreatDoor
open Go.AX Go.RowKit Go.Core
set_option maxRecDepth 20000

end Go.Proofs.YtahjbnfbilkbcaaGreatDoor

/-
  Contract: whether a circle is reached (document).
-/
namespace Go.Core
end Go.Core
namespace Go.Proofs.YtahjbnfbilkbcaaGreatDoor
open Go.AX Go.RowKit Go.Core
set_option maxRecDepth 20000

end Go.Proofs.YtahjbnfbilkbcaaGreatDoor

/-
  Contract: how deep (document).
-/
namespace Go.Core
/-- What is known already. -/
def KnD (g : List Cell) (S : List Int) : Prop := S.length = g.length ∧ ∀ (j : Nat) (v : Int), S[j]? = some v → v = 0 ∨ (v = (dep g (j : Int) : Int) ∧ 0 < v)
theorem KnD.none (g : List Cell) : KnD g (List.replicate g.length 0) := ⟨by simp, fun j v h => by
  rw [List.getElem?_replicate] at h
  split at h
  · exact .inl (Option.some.inj h).symm
  · cases h⟩
theorem KnD.put {g : List Cell} {S : List Int} (h : KnD g S) {i : Nat} (hp : 0 < dep g (i : Int)) : KnD g (S.set i (dep g (i : Int) : Int)) := by
  refine ⟨by rw [List.length_set, h.1], fun j v hj => ?_⟩
  by_cases e : i = j
  · subst e
    rw [List.getElem?_set] at hj
    simp only [if_true] at hj
    split at hj
    · cases hj; exact .inr ⟨rfl, by omega⟩
    · cases hj
  · rw [List.getElem?_set_ne e] at hj
    exact h.2 j v hj
end Go.Core
namespace Go.Proofs.YtahjbnfbilkbcaaGreatDoor
open Go.AX Go.RowKit Go.Core
set_option maxRecDepth 20000

end Go.Proofs.YtahjbnfbilkbcaaGreatDoor

/-
  Contracts: Reach, Circular, Depth (document); CoreReaches (law).
-/
namespace Go.Proofs.YtahjbnfbilkbcaaGreatDoor
open Go.AX Go.RowKit Go.Core
set_option maxRecDepth 20000

end Go.Proofs.YtahjbnfbilkbcaaGreatDoor

/-
  AX, fifty-fifth text: a function that defers delete of a key of a map; pairs of numbers as keys.
-/
namespace Go.AX
open Go.RowKit

theorem findAsk_seek {P : Program} {kt it : TypeId} (h : PairT P kt it) (w : World) (p : Int × Int) : ∀ (es : List MapEntry) (R : List ((Int × Int) × Value)) (i : Nat), KeysAre pairV es R → (Instr.findAsking kt (pairV p) es i).run P w = .ok (seek p R i) w
  | [], [], i, _ => by simp [Instr.findAsking, seek]
  | [], r :: R, i, hr => by cases hr
  | e :: es, [], i, hr => by cases hr
  | e :: es, (q, v) :: R, i, hr => by
    unfold KeysAre at hr
    simp only [List.map_cons, List.cons.injEq, Prod.mk.injEq] at hr
    obtain ⟨⟨hk, hv⟩, hr⟩ := hr
    have hj := findAsk_seek h w p es R (i + 1) hr
    have he := h.equal w p q
    rw [← hk] at he
    unfold seek
    by_cases hpq : p = q
    · rw [if_pos hpq]
      simp [Instr.findAsking, he, hv, Result.andThen, decide_eq_true hpq]
    · rw [if_neg hpq]
      simp [Instr.findAsking, he, hpq, hj, Result.andThen]
theorem pairKeyT {P : Program} {kt it : TypeId} (h : PairT P kt it) : KeyT P kt pairV where
  check := fun w e k => h.check w e k
  find := fun w k es R hr => by
    rw [run_findKey_eq w (by rw [h.k])]
    exact findAsk_seek h w k es R 0 hr
  stay := fun w k => by
    have hs : Instr.sameBits 10000 (pairV k) (pairV k) = true := by
      show Instr.sameBits (9999 + 1) (.agg _) (.agg _) = true
      unfold Instr.sameBits
      have h0 : ∀ x : Int, Instr.sameBits 9999 (.int .i64 x) (.int .i64 x) = true := fun x => by
        show Instr.sameBits (9998 + 1) _ _ = true
        unfold Instr.sameBits
        simp
      simp [h0]
    unfold Instr.keyThatStays
    rw [hs]
    rfl

/-- Statements one behind the other. -/
def seqsC : List Code → Code → Code
  | [], e => e
  | c :: l, e => .seq c (seqsC l e)
def execLs (P : Program) (K : Ex → List AV → List Ent → Prop) (E : List AV → List Ent → Prop) (l : List Code) : List AV → List Ent → Prop :=
  List.rec (motive := fun _ => List AV → List Ent → Prop) E (fun c _ ih s H => exec P c s H (seqK (fun s H _ => ih s H) K)) l
/-- A deferred call of a builtin function, its arguments known. -/
def defD (c : Call) (b : Builtin) (T : TypeId) (xs : List Value) : Deferred := { target := .builtin b c.argTypes T (c.args.map fun | .const _ => true | _ => false), args := xs.toArray }
def endOp (o : Oper) (E : Deferred → List AV → List Ent → Prop) (e : Ex) (s : List AV) (H : List Ent) : Prop :=
  match e, o.op with
  | .normal, .defer c => match c.callee, plainS (opvs s c.args.toList) with
    | .builtin b, some xs => o.guard = none ∧ o.dst = none ∧ E (defD c b o.type xs) s H
    | _, _ => False
  | _, _ => False
/-- Ahead of the end a deferred call is made. -/
def QuitW (P : Program) (d : Deferred) (H : List Ent) (K : List Ent → Prop) : Prop :=
  ∃ H', K H' ∧ ∀ (ρ : List Loc) (S : Nat → Prop) (w : World), Sat ρ S H w → ∃ v w', (invoke d.target d.args).run P w = .ok (.value v) w' ∧ Sat ρ S H' w' ∧ Ev ρ S H w ρ S H' w'
def endQ (P : Program) (rs : List ResultVar) (K : Out → List Ent → Prop) (d : Deferred) (e : Ex) (s : List AV) (H : List Ent) : Prop :=
  match e with
  | .normal => QuitW P d H fun H' => resK P rs s H' fun out => K out H'
  | .ret => QuitW P d H fun H' => resK P rs s H' fun out => K out H'
  | .exit _ => False
  | .pan _ => False

theorem wpList_app {P : Program} {ops : Array Oper} {Q : Exit → Act → World → Prop} (r : List Oper) : ∀ (l : List Oper) (a : Act) (w : World), wpList P ops (fun e a w => match e with | .normal => wpList P ops Q r a w | e => Q e a w) l a w → wpList P ops Q (l ++ r) a w
  | [], a, w, h => h
  | o :: l, a, w, h => by
    rw [List.cons_append]
    unfold wpList at h ⊢
    split at h
    · rename_i hw
      rw [if_pos hw]
      rcases h with h | ⟨h1, a0, w0, h2⟩
      · refine .inl ?_
        have h2 := Oper.wp_mono (K' := wpList P ops Q (l ++ r)) (fun a w => wpList_app r l a w) h
        revert h2
        unfold Oper.wp
        generalize (execOp a.eval o).run P w = x
        intro h2
        cases x with
        | ok n w' =>
          cases n <;> simp only [Oper.upon] at h2 ⊢ <;> first
            | exact h2
            | exact h2.mono fun e w'' he => (by
                cases e with
                | returned v => exact he
                | panicked c => exact he
                | outgrown => obtain ⟨a0, w0, h0⟩ := he; exact ⟨a0, w0, h0⟩)
        | halt x w' => cases x <;> first | exact h2 | exact h2.elim
      · exact .inr ⟨h1, a0, w0, h2⟩
    · rename_i hw
      rw [if_neg hw]
      exact wpList_app r l _ _ h
theorem wpList_defer {P : Program} {ops : Array Oper} {Q : Exit → Act → World → Prop} {o : Oper} {c : Call} {b : Builtin} {xs : List Value} {a : Act} {w : World} (ho : o.op = .defer c) (hc : c.callee = .builtin b) (hg : o.guard = none) (hd : o.dst = none) (hx : c.args.toList.map a.eval = xs)
    (h : Q .normal { tmps := a.tmps, defers := defD c b o.type xs :: a.defers } w) : wpList P ops Q [o] a w := by
  have hxa : c.args.map a.eval = xs.toArray := by
    subst hx
    apply Array.ext'
    rw [Array.toList_map]
  unfold wpList
  rw [if_pos (by unfold Region.wanted; rw [hg])]
  refine .inl ?_
  have hrun : (execOp a.eval o).run P w = .ok (.defer (defD c b o.type xs)) w := by
    unfold execOp
    simp only [ho]
    unfold resolve
    simp only [hc, hxa]
    rfl
  unfold Oper.wp
  rw [hrun, Oper.upon_defer, hd]
  exact h

/-! ### The machine -/
theorem step_quit {P : Program} {fr : Frame} {cs : List Frame} {w w' : World} {d : Deferred} {ds : List Deferred} {b : Builtin} {ats : Array TypeId} {T : TypeId} {kc : Array Bool} {v : Value}
    (hm : fr.mode = .returning) (hd : fr.defers = d :: ds) (ht : d.target = .builtin b ats T kc) (hi : (invoke d.target d.args).run P w = .ok (.value v) w') :
    step P (lone fr cs w) = .next (lone { fr with defers := ds } cs w') := by
  obtain ⟨t, a⟩ := d
  simp only at ht hi
  subst ht
  refine step_lone_go ?_
  simp [stepG, unwind, callDeferred, hm, hd, hi]
def quitPost (P : Program) (fn : Func) (R : Ending → World → Prop) : Exit → Act → World → Prop
  | .normal, a, w | .ret, a, w => Leaves P fn a.tmps R a.defers .returning w ∨ ∃ d b ats T kc v w', a.defers = [d] ∧ d.target = .builtin b ats T kc ∧ (invoke d.target d.args).run P w = .ok (.value v) w' ∧ Leaves P fn a.tmps R [] .returning w'
  | .panic chain, a, w => Leaves P fn a.tmps R a.defers (.panicking chain) w
  | .outgrown, _, w => R .outgrown w
  | _, _, _ => False
theorem calls_of_wp_quit {P : Program} {f : FuncId} {fn : Func} {c : Code} {args : Array Value} {w : World} {R : Ending → World → Prop}
    (hf : P.funcs[f]? = some fn) (hb : fn.body = some c)
    (h : c.wp P (quitPost P fn R) { tmps := args ++ Array.replicate (fn.ntmps - args.size) undef, defers := [] } w) : Calls P f args w R := by
  intro cs
  let b : Frame := { (default : Frame) with fn := f, kind := .normal }
  have henter : Frame.enter P f args .normal =
      b.at { tmps := args ++ Array.replicate (fn.ntmps - args.size) undef, defers := [] } [.code c] := by
    simp [Frame.enter, Frame.at, hf, hb, b]
  obtain ⟨e, a', w', hq, harr⟩ := h b [] cs
  rw [← henter] at harr
  have ret : ∀ todo, Steps P (lone (Frame.enter P f args .normal) cs w) (lone { b.at a' todo with mode := .returning } cs w') →
      (Leaves P fn a'.tmps R a'.defers .returning w' ∨ ∃ d bb ats T kc v w2, a'.defers = [d] ∧ d.target = .builtin bb ats T kc ∧ (invoke d.target d.args).run P w' = .ok (.value v) w2 ∧ Leaves P fn a'.tmps R [] .returning w2) →
      ∃ e w' fr', R e w' ∧ Comes P (lone (Frame.enter P f args .normal) cs w) (lone fr' cs w') e ∧ fr'.fn = f ∧ fr'.leaving P w' e := by
    intro todo hs hq
    rcases hq with hq | ⟨d, bb, ats, T, kc, v, w2, hd, ht, hi, hq⟩
    · obtain ⟨e', w'', fr', hR, hs2, hfn, hl⟩ := leaves_steps a'.defers .returning w' { b.at a' todo with mode := .returning } cs rfl rfl rfl hf rfl hq
      exact ⟨e', w'', fr', hR, Comes.of_steps hs hs2, hfn, hl⟩
    · have h1 := step_quit (P := P) (fr := { b.at a' todo with mode := .returning }) (cs := cs) (ds := []) rfl (by show a'.defers = _; exact hd) ht hi
      obtain ⟨e', w'', fr', hR, hs2, hfn, hl⟩ := leaves_steps [] .returning w2 { { b.at a' todo with mode := .returning } with defers := [] } cs rfl rfl rfl hf rfl hq
      exact ⟨e', w'', fr', hR, Comes.of_steps (Steps.trans hs (.one h1)) hs2, hfn, hl⟩
  cases e with
  | normal => exact ret [] (Steps.trans harr (.one step_end)) hq
  | ret =>
    obtain ⟨todo, hs⟩ := harr
    exact ret todo hs hq
  | panic chain =>
    obtain ⟨todo, hs⟩ := harr
    obtain ⟨e', w'', fr', hR, hs2, hfn, hl⟩ := leaves_steps a'.defers (.panicking chain) w' { b.at a' todo with mode := .panicking chain } cs rfl rfl rfl hf rfl hq
    exact ⟨e', w'', fr', hR, Comes.of_steps hs hs2, hfn, hl⟩
  | exit id => exact hq.elim
  | goto l => exact hq.elim
  | outgrown => exact ⟨.outgrown, w', b, hq, harr.resolve_left (by simp [b]), rfl, trivial⟩

theorem early_quit {P : Program} {fn : Func} {R : Ending → World → Prop} {e : Exit} {a : Act} {w : World} (h : bodyPostD P fn R e a w) : quitPost P fn R e a w := by
  cases e with
  | normal => exact .inl h
  | ret => exact .inl h
  | panic c => exact h
  | outgrown => exact h
  | exit n => exact h
  | goto l => exact h
theorem late_quit {P : Program} {fn : Func} {ρ : List Loc} {S : Nat → Prop} {H : List Ent} {w : World} {K : Out → List Ent → Prop} {d : Deferred} {b : Builtin} {ats : Array TypeId} {T : TypeId} {kc : Array Bool} (ht : d.target = .builtin b ats T kc) {e : Exit} {a : Act} {w' : World}
    (h : Post ρ S H w [d] (endQ P fn.results.toList K d) e a w') : quitPost P fn (EndF ρ S H w K) e a w' := by
  obtain ⟨ρ1, S1, s1, H1, ex, hs1, hev, hr1, hd, hex, hK⟩ := h
  have fin : RelS ρ1 s1 a.tmps.toList → QuitW P d H1 (fun H' => resK P fn.results.toList s1 H' fun out => K out H') → ∃ d b ats T kc v w2, a.defers = [d] ∧ d.target = .builtin b ats T kc ∧ (invoke d.target d.args).run P w' = .ok (.value v) w2 ∧ Leaves P fn a.tmps (EndF ρ S H w K) [] .returning w2 := fun hr2 ⟨H2, hK2, hrun⟩ => by
    obtain ⟨v, w2, h1, hs2, hev2⟩ := hrun ρ1 S1 w' hs1
    obtain ⟨out, hK3, hres⟩ := resK_sound hK2
    obtain ⟨x, hx, hox⟩ := hres ρ1 S1 w2 a.tmps hs2 hr2
    exact ⟨d, b, ats, T, kc, v, w2, hd, ht, h1, x, hx, ρ1, S1, H2, out, hs2, hev.trans hev2, hox, hK3⟩
  cases ex with
  | normal =>
    cases e <;> first | exact hex.elim | skip
    exact .inr (fin hr1 hK)
  | ret =>
    cases e <;> first | exact hex.elim | skip
    exact .inr (fin hr1 hK)
  | exit n => exact hK.elim
  | pan ch => exact hK.elim
/-- Calls of a function that, behind some statements, defers a builtin function. -/
theorem spec_of_quit {P : Program} (hm : P.follows .mixedOrders = true) {f : FuncId} {fn : Func} (l : List Code) {e : Code} {id : Nat} {ops : Array Oper} (l1 : List Oper) (o : Oper) (hf : P.funcs[f]? = some fn) (hn : (fn.name == "runtime.NumGoroutine") = false)
    (hb : fn.body = some (seqsC l ((Code.region id ops false).seq e))) (ho : ops.toList = l1 ++ [o]) {args : List AV} (hl : Nat.ble args.length fn.ntmps = true) {H : List Ent} {K : Out → List Ent → Prop}
    (h : initK fn.ntmps args fun s => execLs P (endK P fn.results.toList K) (fun s H => execOps P ops l1 s H (endOp o fun d s H => exec P e s H (endQ P fn.results.toList K d))) l s H) : SpecH P f args H K := by
  refine ⟨⟨fn, hf, hn, by rw [hb]; rfl⟩, fun ρ S w vs hs hr => ?_⟩
  have hvl := RelS_len hr
  obtain ⟨s0, h, hs0⟩ := initK_rel h (Nat.le_of_ble_eq_true hl)
  have hinit : RelS ρ s0 (vs.toArray ++ Array.replicate (fn.ntmps - vs.toArray.size) undef).toList := by
    have := hs0 ρ vs hr
    simpa [hvl] using this
  refine calls_of_wp_quit hf hb ?_
  -- the statements ahead of the defer
  have go : ∀ (l : List Code) (s1 : List AV) (H1 : List Ent) (ρ1 : List Loc) (S1 : Nat → Prop) (w1 : World) (a1 : Act), execLs P (endK P fn.results.toList K) (fun s H => execOps P ops l1 s H (endOp o fun d s H => exec P e s H (endQ P fn.results.toList K d))) l s1 H1 →
      Sat ρ1 S1 H1 w1 → Ev ρ S H w ρ1 S1 H1 w1 → RelS ρ1 s1 a1.tmps.toList → a1.defers = [] → (seqsC l ((Code.region id ops false).seq e)).wp P (quitPost P fn (EndF ρ S H w K)) a1 w1 := by
    intro l
    induction l with
    | nil =>
      intro s1 H1 ρ1 S1 w1 a1 hx hs1 hev hrel hdf
      refine wp_seq (wp_region_list ?_)
      rw [ho]
      refine wpList_app [o] l1 a1 w1 (wpList_mono (fun ee a' w' hp => ?_) _ _ _ (execOps_sound l1 s1 H1 hx ρ1 S1 w1 a1 hs1 hrel))
      obtain ⟨ρ2, S2, s2, H2, ex, hs2, hev2, hr2, hd2, hex, hK2⟩ := hp
      rw [hdf] at hd2
      unfold endOp at hK2
      split at hK2
      · rename_i c hoc
        cases ee <;> first | exact hex.elim | skip
        split at hK2
        · rename_i b xs hcb hxs
          obtain ⟨hg, hdst, hK2⟩ := hK2
          have hargs : c.args.toList.map a'.eval = xs := plainS_rel hxs (opvs_rel hr2 c.args.toList)
          refine wpList_defer hoc hcb hg hdst hargs ?_
          rw [hd2]
          refine wp_mono (exec_sound hm e s2 H2 _ hK2 ρ2 S2 w' ⟨a'.tmps, [defD c b o.type xs]⟩ hs2 hr2) fun ee2 a2 w2 hp2 => late_quit (d := defD c b o.type xs) rfl (hp2.from (hev.trans hev2))
        · exact hK2.elim
      · exact hK2.elim
    | cons x l ih =>
      intro s1 H1 ρ1 S1 w1 a1 hx hs1 hev hrel hdf
      refine wp_seq (wp_mono (exec_sound hm x s1 H1 _ hx ρ1 S1 w1 a1 hs1 hrel) fun ee a' w' hp => ?_)
      obtain ⟨ρ2, S2, s2, H2, ex, hs2, hev2, hr2, hd2, hex, hK2⟩ := hp
      rw [hdf] at hd2
      cases ex with
      | normal =>
        cases ee <;> first | exact hex.elim | skip
        exact ih s2 H2 ρ2 S2 w' a' hK2 hs2 (hev.trans hev2) hr2 hd2
      | exit n => cases ee <;> first | exact hex.elim | exact early_quit (early_end (P := P) (fn := fn) (K := K) ⟨ρ2, S2, s2, H2, .exit n, hs2, hev.trans hev2, hr2, hd2, hex, hK2⟩)
      | ret => cases ee <;> first | exact hex.elim | exact early_quit (early_end (P := P) (fn := fn) (K := K) ⟨ρ2, S2, s2, H2, .ret, hs2, hev.trans hev2, hr2, hd2, hex, hK2⟩)
      | pan n => cases ee <;> first | exact hex.elim | exact early_quit (early_end (P := P) (fn := fn) (K := K) ⟨ρ2, S2, s2, H2, .pan n, hs2, hev.trans hev2, hr2, hd2, hex, hK2⟩)
  exact go l s0 H ρ S w ⟨_, []⟩ h hs (Ev.refl _ _ _ _) hinit rfl

/-! ### delete -/
theorem KeysAre.erase {α : Type} [DecidableEq α] {enc : α → Value} {es : List MapEntry} {R : List (α × Value)} (h : KeysAre enc es R) (j : Nat) : KeysAre enc (es.eraseIdx j) (R.eraseIdx j) := by
  unfold KeysAre at *
  have em : ∀ {α β : Type} (f : α → β) (l : List α) (j : Nat), (l.eraseIdx j).map f = (l.map f).eraseIdx j := fun f l => by
    induction l with
    | nil => intro j; rfl
    | cons x l ih =>
      intro j
      cases j with
      | zero => rfl
      | succ j => simp only [List.eraseIdx_cons_succ, List.map_cons, ih]
  rw [em, em, h]
theorem QuitW.del {P : Program} {H : List Ent} {K : List Ent → Prop} {T mt kt et : TypeId} {c : Call} {b cl : Nat} {es : Array MapEntry} {α : Type} [DecidableEq α] {enc : α → Value} {p : α} (i : Nat) (R : List (α × Value)) {j : Nat} {v : Value} (hc : c.argTypes[0]? = some mt) (ht : P.underlying mt = some (.map kt et)) (hkt : KeyT P kt enc)
    (hi : nthE H i = some (.mp b es cl)) (hf : KeysAre enc es.toList R) (hs : seek p R 0 = some (j, v)) (next : ∀ es' : Array MapEntry, KeysAre enc es'.toList (R.eraseIdx j) → setEK H i (.mp b es' cl) K) : QuitW P (defD c .delete T [.map (some b), enc p]) H K := by
  rw [nthE_eq] at hi
  have hlen : es.size = R.length := by
    have := congrArg List.length hf
    simpa using this
  have hes : (es.eraseIdxIfInBounds j).toList = es.toList.eraseIdx j := by simp
  obtain ⟨_, hk⟩ := setEK_spec (next (es.eraseIdxIfInBounds j) (by rw [hes]; exact hf.erase j))
  refine ⟨_, hk, fun ρ S w hS => ?_⟩
  have hb : w.heap[b]? = some (.map es cl) := hS.ent i _ hi
  have hbl : b < w.heap.size := (Array.getElem?_eq_some_iff.1 hb).1
  have hrun : (Builtin.delete_ c.argTypes T #[.map (some b), enc p]).run P w = .ok (.tuple #[]) { w with heap := w.heap.setIfInBounds b (.map (es.eraseIdxIfInBounds j) cl) } := by
    have hfd := hkt.find w p es.toList R hf
    rw [hs] at hfd
    simp [Builtin.delete_, hc, run_underlying ht, MapKept.run_getObj_map hb, hkt.check w es.isEmpty p, hfd, MapKept.run_setObj_map _ hb, Result.andThen]
  have hS2 := hS.setG (e' := .mp b (es.eraseIdxIfInBounds j) cl) (c := b) (w' := { w with heap := w.heap.setIfInBounds b (.map (es.eraseIdxIfInBounds j) cl) }) hi rfl (by simp) (fun j _ hne => by simp [Ne.symm hne]) rfl rfl rfl (fun _ hc => .inl (Option.some.inj hc).symm) (by show (w.heap.setIfInBounds b _)[b]? = _; simp [hbl])
  refine ⟨.tuple #[], _, ?_, hS2.1, hS2.2⟩
  show (invoke (.builtin .delete c.argTypes T _) #[.map (some b), enc p]).run P w = _
  unfold invoke
  show (builtin .delete c.argTypes T _ #[.map (some b), enc p]).run P w = _
  rw [show builtin .delete c.argTypes T (c.args.map fun | .const _ => true | _ => false) #[.map (some b), enc p] = (do pure (.value (← Builtin.delete_ c.argTypes T #[.map (some b), enc p]))) from rfl]
  simp only [Sem.run_bind, hrun, Result.andThen_ok, Sem.run_pure]
end Go.AX

/-
  Contracts: cmp.Compare, strings.Compare, cmp.Or.
-/
namespace Go.Core
theorem compareInt_eq (x y : Int) : Lib.compareInt x y = sgn x y := by
  unfold Lib.compareInt sgn
  rfl
theorem compareBytes_eq : ∀ a b : List UInt8, Lib.compareBytes a b = tcmp a b
  | [], [] => rfl
  | [], _ :: _ => rfl
  | _ :: _, [] => rfl
  | a :: l, b :: m => by
    unfold Lib.compareBytes tcmp
    have h1 : (a < b) ↔ ((a.toNat : Int) < (b.toNat : Int)) := by rw [UInt8.lt_iff_toNat_lt]; omega
    have h2 : (b < a) ↔ ((b.toNat : Int) < (a.toNat : Int)) := by rw [UInt8.lt_iff_toNat_lt]; omega
    unfold sgn
    by_cases h3 : a < b
    · rw [if_pos h3, if_pos (h1.1 h3), if_neg (by decide)]
    · rw [if_neg h3, if_neg (fun h => h3 (h1.2 h))]
      by_cases h4 : b < a
      · rw [if_pos h4, if_pos (h2.1 h4), if_neg (by decide)]
      · rw [if_neg h4, if_neg (fun h => h4 (h2.2 h)), if_pos rfl, compareBytes_eq l m]
end Go.Core
namespace Go.Proofs.YtahjbnfbilkbcaaGreatDoor
open Go.AX Go.RowKit Go.Core
set_option maxRecDepth 20000

theorem cmpInt_c (x y : Int) : ∀ H, SpecH Tryz.prog 64 (pvs [.int .i64 x, .int .i64 y]) H (Ret (.int .i64 (sgn x y)) H) := fun H =>
  SpecH.rawP (R := fun r => r = .int .i64 (sgn x y)) (callOk Tryz.func64 (by kernel_rfl) rfl) (fun w _ => (Tryz.cmp_Compare_int x y w).mono fun e w' ⟨he, hw⟩ => by
    subst hw
    rw [compareInt_eq] at he
    exact ⟨_, he, rfl, Below.refl _ _⟩) fun r hr => by subst hr; exact ⟨rfl, rfl⟩
theorem cmpTxt_c (x y : List UInt8) : ∀ H, SpecH Tryz.prog 65 (pvs [.string (bs x), .string (bs y)]) H (Ret (.int .i64 (tcmp x y)) H) := fun H =>
  SpecH.rawP (R := fun r => r = .int .i64 (tcmp x y)) (callOk Tryz.func65 (by kernel_rfl) rfl) (fun w _ => (Tryz.strings_Compare (bs x) (bs y) w).mono fun e w' ⟨he, hw⟩ => by
    subst hw
    rw [bs_list, bs_list, compareBytes_eq] at he
    exact ⟨_, he, rfl, Below.refl _ _⟩) fun r hr => by subst hr; exact ⟨rfl, rfl⟩
set_option maxHeartbeats 1000000 in
theorem Or_c (a : Option Addr) (x y : Int) (ha : a.isSome = true) : ∀ H, (∀ w, Facts H w → SlAt a 2 [.int .i64 x, .int .i64 y] w) → SpecH Tryz.prog 63 (pvs [.slice a 2 2]) H (Ret (.int .i64 (if x = 0 then y else x)) H) := by
  refine factC hm Tryz.func63 (by kernel_rfl) rfl rfl ?_
  (first | refine wX ?_ | exact wZ)
  refine LoopN.unroll 3 ?_
  (first | refine wX ?_ | exact wZ)
  refine Nd.mk ⟨ha, by decide, by decide⟩ ?_
  (first | refine wX ?_ | exact wZ)
  refine LdN.one (.int .i64 x) rfl (fun w hw => hw.1) rfl ?_
  (first | refine wX ?_ | exact wZ)
  refine brd_ne (fun h1 => ?_) (fun h1 => ?_)
  · rw [if_neg h1]
    (first | refine wX ?_ | exact wZ)
  rw [if_pos h1]
  (first | refine wX ?_ | exact wZ)
  refine Nd.mk ⟨ha, by decide, by decide⟩ ?_
  (first | refine wX ?_ | exact wZ)
  refine LdN.one (.int .i64 y) rfl (fun w hw => hw.1) rfl ?_
  (first | refine wX ?_ | exact wZ)
  refine brd_ne (fun h2 => ?_) (fun h2 => ?_)
  · (first | refine wX ?_ | exact wZ)
  · (first | refine wX ?_ | exact wZ)
    rw [h2]
end Go.Proofs.YtahjbnfbilkbcaaGreatDoor

/-
  Contract: Compare's closure (program).
-/
namespace Go.Core
theorem left_cons {g : List Cell} {u : List (Int × Int)} {p : Int × Int} (hp : InP g p) (hn : p ∉ u) : left g (p :: u) < left g u :=
  Nat.lt_of_le_of_lt (left_mono fun q hq => by
    rcases List.mem_append.1 hq with h | h
    · simp [h]
    · simp [List.mem_singleton.1 h]) (left_lt hp hn)
/-- What a list of pairs holds. -/
def lk {α : Type} [DecidableEq α] (k : α) (R : List (α × Value)) : Option Value := R.lookup k
theorem lk_eq {α : Type} [DecidableEq α] (B : BEq α) (hB : ∀ a b : α, @BEq.beq α B a b = decide (a = b)) (k : α) : ∀ R : List (α × Value), lk k R = @List.lookup α Value B k R
  | [] => rfl
  | (q, x) :: R => by
    have ih := lk_eq B hB k R
    unfold lk at ih ⊢
    by_cases e : k = q
    · have h1 : (@BEq.beq α instBEqOfDecidableEq k q) = true := by simp [e]
      have h2 : @BEq.beq α B k q = true := by rw [hB]; simp [e]
      simp only [List.lookup, h1, h2]
    · have h1 : (@BEq.beq α instBEqOfDecidableEq k q) = false := by simp [e]
      have h2 : @BEq.beq α B k q = false := by rw [hB]; simp [e]
      simp only [List.lookup, h1, h2, ih]
theorem lk_pair (p : Int × Int) (R : List ((Int × Int) × Value)) : lk p R = R.lookup p := lk_eq _ (fun a b => by rw [Bool.eq_iff_iff]; simp) p R
/-- What the map of those under way holds. -/
def undR (u : List (Int × Int)) : List ((Int × Int) × Value) := seenR u.reverse
theorem und_get (u : List (Int × Int)) (p : Int × Int) : (lk p (undR u)).getD (.bool false) = .bool (decide (p ∈ u)) := by
  rw [lk_pair]
  unfold undR
  rw [seen_get]
  simp
theorem upd_new {α : Type} [DecidableEq α] {k : α} {v : Value} : ∀ {R : List (α × Value)}, lk k R = none → Go.AX.upd k v R = R ++ [(k, v)]
  | [], _ => rfl
  | (q, x) :: R, h => by
    unfold lk at h
    rw [List.lookup_cons] at h
    by_cases e : k = q
    · subst e; simp at h
    · rw [show (k == q) = false by simp [e]] at h
      unfold Go.AX.upd
      rw [if_neg e, upd_new h]
      rfl
theorem und_put {u : List (Int × Int)} {p : Int × Int} (h : p ∉ u) : Go.AX.upd p (.bool true) (undR u) = undR (p :: u) := by
  rw [upd_new (by rw [lk_pair]; unfold undR; exact seen_none (by simpa using h))]
  unfold undR
  rw [List.reverse_cons]
  unfold seenR
  simp
theorem seek_app {α : Type} [DecidableEq α] {k : α} {v : Value} : ∀ {R : List (α × Value)} (i : Nat), lk k R = none → Go.AX.seek k (R ++ [(k, v)]) i = some (i + R.length, v)
  | [], i, _ => by simp [Go.AX.seek]
  | (q, x) :: R, i, h => by
    unfold lk at h
    rw [List.lookup_cons] at h
    by_cases e : k = q
    · subst e; simp at h
    · rw [show (k == q) = false by simp [e]] at h
      rw [List.cons_append]
      unfold Go.AX.seek
      rw [if_neg e, seek_app (i + 1) h]
      simp only [List.length_cons]
      congr 2
      omega
theorem und_seek {u : List (Int × Int)} {p : Int × Int} (h : p ∉ u) : Go.AX.seek p (undR (p :: u)) 0 = some (u.length, .bool true) ∧ (undR (p :: u)).eraseIdx u.length = undR u := by
  have e : undR (p :: u) = undR u ++ [(p, .bool true)] := by
    unfold undR
    rw [List.reverse_cons]
    unfold seenR
    simp
  have hl : (undR u).length = u.length := by unfold undR seenR; simp
  rw [e]
  refine ⟨by rw [seek_app 0 (by rw [lk_pair]; unfold undR; exact seen_none (by simpa using h)), hl]; simp, ?_⟩
  rw [← hl]
  rw [List.eraseIdx_append_of_length_le (Nat.le_refl _), Nat.sub_self]
  simp
/-- Cells of the nine kinds. -/
def KindOk (g : List Cell) : Prop := ∀ c ∈ g, 0 ≤ c.kind ∧ c.kind ≤ 8
/-- What the map of those found holds. -/
def DoneM (R : List ((Int × Int) × Value)) (d : List (Int × Int)) : Prop := ∀ p, (lk p R).getD (.bool false) = .bool (decide (p ∈ d))
theorem DoneM.put {R : List ((Int × Int) × Value)} {d : List (Int × Int)} (h : DoneM R d) (p : Int × Int) : DoneM (Go.AX.upd p (.bool true) R) (p :: d) := fun q => by
  have h1 := Go.AX.look_upd p q (.bool true) R
  have h2 : lk q (Go.AX.upd p (.bool true) R) = if q = p then some (.bool true) else lk q R := h1
  rw [h2]
  by_cases e : q = p
  · rw [if_pos e]; simp [e]
  · rw [if_neg e, h q]; simp [e]
theorem cmpL_at {α : Type} {f : α → Int × Int → (Int × Int) × α} {d : α} {l : List (Int × Int)} {k : Nat} {p : Int × Int} (h : l[k]? = some p) : cmpL f d (l.drop k) = match f d p with | (r, d') => if r.1 = 0 ∧ r.2 = 0 then cmpL f d' (l.drop (k + 1)) else (r, d') := by
  obtain ⟨hlt, hx⟩ := List.getElem?_eq_some_iff.1 h
  rw [List.drop_eq_getElem_cons hlt, hx]
  rfl
end Go.Core
namespace Go.Proofs.YtahjbnfbilkbcaaGreatDoor
open Go.AX Go.RowKit Go.Core
set_option maxRecDepth 20000

/-- What the closure knows. -/
def cmF (a : Option Addr) (ca : Nat) (l : List CellP) (gb ub db fb mu md : Nat) (w : World) : Prop :=
  GrF a l w ∧ SlAt (some ⟨gb, 0, none⟩) 1 [.slice a l.length ca] w ∧ SlAt (some ⟨ub, 0, none⟩) 1 [.map (some mu)] w ∧ SlAt (some ⟨db, 0, none⟩) 1 [.map (some md)] w ∧
    SlAt (some ⟨fb, 0, none⟩) 1 [.func (.func 62) #[] #[.pointer (some ⟨gb, 0, none⟩), .pointer (some ⟨ub, 0, none⟩), .pointer (some ⟨db, 0, none⟩), .pointer (some ⟨fb, 0, none⟩)]] w
def cmA (u v : Int) (gb ub db fb : Nat) : List AV := pvs [.int .i64 u, .int .i64 v, .pointer (some ⟨gb, 0, none⟩), .pointer (some ⟨ub, 0, none⟩), .pointer (some ⟨db, 0, none⟩), .pointer (some ⟨fb, 0, none⟩)]
structure MSt where
  eu : Array MapEntry
  cu : Nat
  ed : Array MapEntry
  cd : Nat
def cmH (F : World → Prop) (mu md : Nat) (i : MSt) : List Ent := [.mp mu i.eu i.cu, .mp md i.ed i.cd, .fact F]
theorem cmH_ok (F : World → Prop) (mu md : Nat) (i : MSt) : okH (cmH F mu md i).length (cmH F mu md i) := okHB_eq rfl
/-- What the maps hold; u: those under way, d: those found (where that is told). -/
def CmOk (u : List (Int × Int)) (d : List (Int × Int)) (b : Prop) (i : MSt) : Prop := KeysAre pairV i.eu.toList (undR u) ∧ ∃ R, KeysAre pairV i.ed.toList R ∧ (b → DoneM R d)
theorem mapPB : Tryz.prog.underlying 93 = some (.map 95 4) := by kernel_rfl
theorem pairK : KeyT Tryz.prog 95 pairV := pairKeyT pairT
set_option maxHeartbeats 8000000 in
theorem compare_c (a : Option Addr) (ca : Nat) (l : List CellP) (ha : a = none → l = []) (hs : Small l) (hok : ∀ p ∈ l, CellOk p) (hg : InG (l.map (·.c))) (hkd : KindOk (l.map (·.c))) (gb ub db fb mu md : Nat) : ∀ (n : Nat) (u d : List (Int × Int)) (i : MSt) (p : Int × Int), InP (l.map (·.c)) p → left (l.map (·.c)) u < n → CmOk u d True i →
    SpecH Tryz.prog 62 (cmA p.1 p.2 gb ub db fb) (cmH (cmF a ca l gb ub db fb mu md) mu md i)
      (RetG (ι := MSt) (fun j => CmOk u (cmpF 3 10 (l.map (·.c)) n u d p).2 ((cmpF 3 10 (l.map (·.c)) n u d p).1 = (0, 0)) j) (fun _ => .tuple #[.int .i64 (cmpF 3 10 (l.map (·.c)) n u d p).1.1, .int .i64 (cmpF 3 10 (l.map (·.c)) n u d p).1.2]) (cmH (cmF a ca l gb ub db fb mu md) mu md)) := by
  intro n
  induction n with
  | zero => intro u d i p _ h; omega
  | succ n ih =>
    rintro u d ⟨eu, cu, ed, cd⟩ ⟨u0, v0⟩ hp hn ⟨hU, R, hR, hD⟩
    simp only at hU hR
    have hD := hD trivial
    obtain ⟨x1, rfl⟩ : ∃ x1 : Nat, u0 = (x1 : Int) := ⟨u0.toNat, by have := hp.1; simp only at this; omega⟩
    obtain ⟨y1, rfl⟩ : ∃ y1 : Nat, v0 = (y1 : Int) := ⟨v0.toNat, by have := hp.2; simp only at this; omega⟩
    have hu : x1 < l.length := by have := hp.1.2; simp only [List.length_map] at this; omega
    have hv : y1 < l.length := by have := hp.2.2; simp only [List.length_map] at this; omega
    obtain ⟨x, hx⟩ : ∃ x, l[x1]? = some x := ⟨_, List.getElem?_eq_getElem hu⟩
    obtain ⟨y, hy⟩ : ∃ y, l[y1]? = some y := ⟨_, List.getElem?_eq_getElem hv⟩
    have hxm := List.mem_of_getElem? hx
    have hym := List.mem_of_getElem? hy
    have hxo := hok x hxm
    have hyo := hok y hym
    have hxs := hs.2 x hxm
    have hys := hs.2 y hym
    have hl := hs.1
    have hkx := hkd x.c (List.mem_map.2 ⟨x, hxm, rfl⟩)
    have hsa : a.isSome = true := by
      cases a with
      | none => rw [ha rfl] at hu; exact absurd hu (Nat.not_lt_zero _)
      | some b => rfl
    have hcmp : cmpF 3 10 (l.map (·.c)) (n + 1) u d ((x1 : Int), (y1 : Int)) = if x.c.kind ≠ y.c.kind ∨ cmpable x.c.kind = false then ((0, 3), d)
        else if x.c.kind ≠ 6 then ((leafC x.c y.c, 0), d) else if ((x1 : Int), (y1 : Int)) ∈ u then ((0, 10), d) else if ((x1 : Int), (y1 : Int)) ∈ d then ((0, 0), d)
        else match cmpL (cmpF 3 10 (l.map (·.c)) n (((x1 : Int), (y1 : Int)) :: u)) d (x.c.items.zip y.c.items) with
          | (r, d') => if r.1 = 0 ∧ r.2 = 0 then ((sgn (x.c.items.length : Int) (y.c.items.length : Int), 0), if sgn (x.c.items.length : Int) (y.c.items.length : Int) = 0 then ((x1 : Int), (y1 : Int)) :: d' else d') else (r, d') := by
      conv => lhs; unfold cmpF
      have hnx : nextP (l.map (·.c)) ((x1 : Int), (y1 : Int)) = x.c.items.zip y.c.items := by unfold nextP; rw [at_map hx, at_map hy]
      rw [hnx]
      simp only [at_map hx, at_map hy]
    show SpecH _ _ (cmA (x1 : Int) (y1 : Int) gb ub db fb) _ _
    rw [hcmp]
    clear hcmp
    obtain ⟨W, hW⟩ : ∃ W, W = (if x.c.kind ≠ y.c.kind ∨ cmpable x.c.kind = false then ((0, 3), d)
        else if x.c.kind ≠ 6 then ((leafC x.c y.c, 0), d) else if ((x1 : Int), (y1 : Int)) ∈ u then ((0, 10), d) else if ((x1 : Int), (y1 : Int)) ∈ d then ((0, 0), d)
        else match cmpL (cmpF 3 10 (l.map (·.c)) n (((x1 : Int), (y1 : Int)) :: u)) d (x.c.items.zip y.c.items) with
          | (r, d') => if r.1 = 0 ∧ r.2 = 0 then ((sgn (x.c.items.length : Int) (y.c.items.length : Int), 0), if sgn (x.c.items.length : Int) (y.c.items.length : Int) = 0 then ((x1 : Int), (y1 : Int)) :: d' else d') else (r, d')) := ⟨_, rfl⟩
    rw [← hW]
    refine SpecH.wkG (fun _ _ => cmH_ok _ _ _ _) (fun _ _ => Nat.le_refl _) ?_
    refine spec_of_quit hm [_, _, _, _, _] [_, _] _ Tryz.func62 (by kernel_rfl) rfl rfl rfl ?_
    (conv => whnf)
    refine DrawN.planR hm (fun w => cmF a ca l gb ub db fb mu md w) [1, 5] [(0, 1), (4, 1), (2, 1), (3, 1), (6, 1), (7, 1), (8, 2), (9, 2), (10, 0), (11, 0)] (by decide +kernel) (fun w hw => hw.2.2.1) ?_
    -- fun w hw => hw.2.2.1: why the kind holds
    ((conv => whnf); (repeat ((first | refine Nd.mk (fun w hw => hw.2.2.1) ?_ | refine VrN.norm (wrap_i64 (by omega)) ?_ | refine VrN.keep ?_ | refine Nd.mk (by decide +kernel) ?_ | refine Nd.mk (by omega) ?_ | refine RdN.intro _ rfl (by rfl) ?_); (conv => whnf))))
    refine ReadC.one (a := some ⟨gb, 0, none⟩) (q := 0) (.slice a l.length ca) rfl rfl rfl (fun w hw => hw.2.1) rfl ?_
    -- fun w hw => hw.2.2.1: why the kind holds
    ((conv => whnf); (repeat ((first | refine Nd.mk (fun w hw => hw.2.2.1) ?_ | refine VrN.norm (wrap_i64 (by omega)) ?_ | refine VrN.keep ?_ | refine Nd.mk (by decide +kernel) ?_ | refine Nd.mk (by omega) ?_ | refine RdN.intro _ rfl (by rfl) ?_); (conv => whnf))))
    refine ReadC.one (a := some ⟨gb, 0, none⟩) (q := 0) (.slice a l.length ca) rfl rfl rfl (fun w hw => hw.2.1) rfl ?_
    -- fun w hw => hw.2.2.1: why the kind holds
    ((conv => whnf); (repeat ((first | refine Nd.mk (fun w hw => hw.2.2.1) ?_ | refine VrN.norm (wrap_i64 (by omega)) ?_ | refine VrN.keep ?_ | refine Nd.mk (by decide +kernel) ?_ | refine Nd.mk (by omega) ?_ | refine RdN.intro _ rfl (by rfl) ?_); (conv => whnf))))
    refine ReadC.idxA (e := 42) (sz := 5) x1 rfl Tryz.underlying22 rfl rfl rfl rfl hsa hu ?_
    -- fun w hw => hw.2.2.1: why the kind holds
    ((conv => whnf); (repeat ((first | refine Nd.mk (fun w hw => hw.2.2.1) ?_ | refine VrN.norm (wrap_i64 (by omega)) ?_ | refine VrN.keep ?_ | refine Nd.mk (by decide +kernel) ?_ | refine Nd.mk (by omega) ?_ | refine RdN.intro _ rfl (by rfl) ?_); (conv => whnf))))
    refine ReadC.agg (cellC x) rfl rfl rfl (fun w hw => hw.1.1) rfl (fun k hk => grC_get l x1 k hk hx) ?_
    -- fun w hw => hw.2.2.1: why the kind holds
    ((conv => whnf); (repeat ((first | refine Nd.mk (fun w hw => hw.2.2.1) ?_ | refine VrN.norm (wrap_i64 (by omega)) ?_ | refine VrN.keep ?_ | refine Nd.mk (by decide +kernel) ?_ | refine Nd.mk (by omega) ?_ | refine RdN.intro _ rfl (by rfl) ?_); (conv => whnf))))
    refine ReadC.idxA (e := 42) (sz := 5) y1 rfl Tryz.underlying22 rfl rfl rfl rfl hsa hv ?_
    -- fun w hw => hw.2.2.1: why the kind holds
    ((conv => whnf); (repeat ((first | refine Nd.mk (fun w hw => hw.2.2.1) ?_ | refine VrN.norm (wrap_i64 (by omega)) ?_ | refine VrN.keep ?_ | refine Nd.mk (by decide +kernel) ?_ | refine Nd.mk (by omega) ?_ | refine RdN.intro _ rfl (by rfl) ?_); (conv => whnf))))
    refine ReadC.agg (cellC y) rfl rfl rfl (fun w hw => hw.1.1) rfl (fun k hk => grC_get l y1 k hk hy) ?_
    -- fun w hw => hw.2.2.1: why the kind holds
    ((conv => whnf); (repeat ((first | refine Nd.mk (fun w hw => hw.2.2.1) ?_ | refine VrN.norm (wrap_i64 (by omega)) ?_ | refine VrN.keep ?_ | refine Nd.mk (by decide +kernel) ?_ | refine Nd.mk (by omega) ?_ | refine RdN.intro _ rfl (by rfl) ?_); (conv => whnf))))
    refine ReadW.pair rfl pairT rfl rfl rfl rfl ?_
    (first | refine wXB ?_ | exact wZB)
    refine BoxN.known [.int .i64 0, .int .i64 0] rfl fun pb => ?_
    (first | refine wXB ?_ | exact wZB)
    refine EffW.appTo (i := 5) (q := 0) (ys := [.int .i64 (x1 : Int), .int .i64 (y1 : Int)]) [.int .i64 (x1 : Int), .int .i64 (y1 : Int)] 2 rfl rfl rfl rfl rfl rfl rfl (Nat.le_of_ble_eq_true rfl) rfl rfl ?_
    obtain ⟨⟨kx, nx, tx, nmx, ix⟩, nax, ncx, iax, icx⟩ := x
    obtain ⟨⟨ky, ny, ty, nmy, iy⟩, nay, ncy, iay, icy⟩ := y
    simp only at hkx hW hxo hyo hxs hys
    have hkk : kx = 0 ∨ kx = 1 ∨ kx = 2 ∨ kx = 3 ∨ kx = 4 ∨ kx = 5 ∨ kx = 6 ∨ kx = 7 ∨ kx = 8 := by omega
    rcases hkk with rfl | rfl | rfl | rfl | rfl | rfl | rfl | rfl | rfl
    · (first | refine wX ?_ | exact wZ)
      refine brd_ne (fun h1 => ?_) (fun h1 => ?_)
      · (first | refine wX ?_ | exact wZ)
        -- no order
        obtain rfl : W = ((0, 3), d) := by rw [hW, if_pos (by first | exact .inl h1 | exact .inr (by decide))]
        exact ⟨⟨eu, cu, ed, cd⟩, ⟨hU, R, hR, fun h => by cases h⟩, rfl, wkE_refl _, wkE_refl _, wkE_refl _, trivial⟩
      · obtain rfl : ky = _ := h1.symm
        (first | refine wX ?_ | exact wZ)
        -- no order
        obtain rfl : W = ((0, 3), d) := by rw [hW, if_pos (by first | exact .inl h1 | exact .inr (by decide))]
        exact ⟨⟨eu, cu, ed, cd⟩, ⟨hU, R, hR, fun h => by cases h⟩, rfl, wkE_refl _, wkE_refl _, wkE_refl _, trivial⟩
    · (first | refine wX ?_ | exact wZ)
      refine brd_ne (fun h1 => ?_) (fun h1 => ?_)
      · (first | refine wX ?_ | exact wZ)
        -- no order
        obtain rfl : W = ((0, 3), d) := by rw [hW, if_pos (by first | exact .inl h1 | exact .inr (by decide))]
        exact ⟨⟨eu, cu, ed, cd⟩, ⟨hU, R, hR, fun h => by cases h⟩, rfl, wkE_refl _, wkE_refl _, wkE_refl _, trivial⟩
      · obtain rfl : ky = _ := h1.symm
        (first | refine wX ?_ | exact wZ)
        -- no order
        obtain rfl : W = ((0, 3), d) := by rw [hW, if_pos (by first | exact .inl h1 | exact .inr (by decide))]
        exact ⟨⟨eu, cu, ed, cd⟩, ⟨hU, R, hR, fun h => by cases h⟩, rfl, wkE_refl _, wkE_refl _, wkE_refl _, trivial⟩
    · (first | refine wX ?_ | exact wZ)
      refine brd_ne (fun h1 => ?_) (fun h1 => ?_)
      · (first | refine wX ?_ | exact wZ)
        -- no order
        obtain rfl : W = ((0, 3), d) := by rw [hW, if_pos (by first | exact .inl h1 | exact .inr (by decide))]
        exact ⟨⟨eu, cu, ed, cd⟩, ⟨hU, R, hR, fun h => by cases h⟩, rfl, wkE_refl _, wkE_refl _, wkE_refl _, trivial⟩
      · obtain rfl : ky = _ := h1.symm
        (first | refine wX ?_ | exact wZ)
        -- no order
        obtain rfl : W = ((0, 3), d) := by rw [hW, if_pos (by first | exact .inl h1 | exact .inr (by decide))]
        exact ⟨⟨eu, cu, ed, cd⟩, ⟨hU, R, hR, fun h => by cases h⟩, rfl, wkE_refl _, wkE_refl _, wkE_refl _, trivial⟩
    · (first | refine wX ?_ | exact wZ)
      refine brd_ne (fun h1 => ?_) (fun h1 => ?_)
      · (first | refine wX ?_ | exact wZ)
        -- no order
        obtain rfl : W = ((0, 3), d) := by rw [hW, if_pos (by first | exact .inl h1 | exact .inr (by decide))]
        exact ⟨⟨eu, cu, ed, cd⟩, ⟨hU, R, hR, fun h => by cases h⟩, rfl, wkE_refl _, wkE_refl _, wkE_refl _, trivial⟩
      obtain rfl : ky = _ := h1.symm
      (first | refine wX ?_ | exact wZ)
      refine DrawN.planQ [0, 2, 5, 7] [1, 3, 6, 8, 4, 9] [(10, 0), (11, 0), (12, 1), (13, 1)] (by decide +kernel) ?_
      ((conv => whnf); (repeat ((first | refine BoxN.own ?_ | refine VrN.norm (wrap_i64 (by omega)) ?_ | refine VrN.keep ?_ | refine DrawN.calm (by decide +kernel) ?_ | refine Nd.mk (by decide +kernel) ?_ | refine Nd.mk (by omega) ?_ | (refine Nd.mk ?_ ?_; focus ((repeat' (first | exact trivial | exact wkE_refl _ | refine And.intro ?_ ?_)); done)) | refine RdN.intro _ rfl (by rfl) ?_); (conv => whnf))))
      refine callQ (cmpInt_c nx ny _) ?_
      ((conv => whnf); (repeat ((first | refine BoxN.own ?_ | refine VrN.norm (wrap_i64 (by omega)) ?_ | refine VrN.keep ?_ | refine DrawN.calm (by decide +kernel) ?_ | refine Nd.mk (by decide +kernel) ?_ | refine Nd.mk (by omega) ?_ | (refine Nd.mk ?_ ?_; focus ((repeat' (first | exact trivial | exact wkE_refl _ | refine And.intro ?_ ?_)); done)) | refine RdN.intro _ rfl (by rfl) ?_); (conv => whnf))))
      refine callQ (cmpTxt_c tx ty _) ?_
      ((conv => whnf); (repeat ((first | refine BoxN.own ?_ | refine VrN.norm (wrap_i64 (by omega)) ?_ | refine VrN.keep ?_ | refine DrawN.calm (by decide +kernel) ?_ | refine Nd.mk (by decide +kernel) ?_ | refine Nd.mk (by omega) ?_ | (refine Nd.mk ?_ ?_; focus ((repeat' (first | exact trivial | exact wkE_refl _ | refine And.intro ?_ ?_)); done)) | refine RdN.intro _ rfl (by rfl) ?_); (conv => whnf))))
      refine RwN.known [.int .i64 (sgn nx ny), .int .i64 (tcmp tx ty)] rfl fun rb => ?_
      ((conv => whnf); (repeat ((first | refine BoxN.own ?_ | refine VrN.norm (wrap_i64 (by omega)) ?_ | refine VrN.keep ?_ | refine DrawN.calm (by decide +kernel) ?_ | refine Nd.mk (by decide +kernel) ?_ | refine Nd.mk (by omega) ?_ | (refine Nd.mk ?_ ?_; focus ((repeat' (first | exact trivial | exact wkE_refl _ | refine And.intro ?_ ?_)); done)) | refine RdN.intro _ rfl (by rfl) ?_); (conv => whnf))))
      refine call1 (Or_c (some ⟨rb, 0, none⟩) (sgn nx ny) (tcmp tx ty) rfl _ (fun w hw => hw.2.2.2.2.1)) ?_
      ((conv => whnf); (repeat ((first | refine BoxN.own ?_ | refine VrN.norm (wrap_i64 (by omega)) ?_ | refine VrN.keep ?_ | refine DrawN.calm (by decide +kernel) ?_ | refine Nd.mk (by decide +kernel) ?_ | refine Nd.mk (by omega) ?_ | (refine Nd.mk ?_ ?_; focus ((repeat' (first | exact trivial | exact wkE_refl _ | refine And.intro ?_ ?_)); done)) | refine RdN.intro _ rfl (by rfl) ?_); (conv => whnf))))
      obtain rfl : W = ((leafC ⟨3, nx, tx, nmx, ix⟩ ⟨3, ny, ty, nmy, iy⟩, 0), d) := by
        rw [hW, if_neg (by rintro (h | h); exact h rfl; exact absurd h (by decide)), if_pos (by decide)]
      exact ⟨⟨eu, cu, ed, cd⟩, ⟨hU, R, hR, fun _ => hD⟩, rfl, wkE_refl _, wkE_refl _, wkE_refl _, trivial⟩
    · (first | refine wX ?_ | exact wZ)
      refine brd_ne (fun h1 => ?_) (fun h1 => ?_)
      · (first | refine wX ?_ | exact wZ)
        -- no order
        obtain rfl : W = ((0, 3), d) := by rw [hW, if_pos (by first | exact .inl h1 | exact .inr (by decide))]
        exact ⟨⟨eu, cu, ed, cd⟩, ⟨hU, R, hR, fun h => by cases h⟩, rfl, wkE_refl _, wkE_refl _, wkE_refl _, trivial⟩
      obtain rfl : ky = _ := h1.symm
      (first | refine wX ?_ | exact wZ)
      refine DrawN.planQ [0, 2, 5, 7] [1, 3, 6, 8, 4, 9] [(10, 0), (11, 0), (12, 1), (13, 1)] (by decide +kernel) ?_
      ((conv => whnf); (repeat ((first | refine BoxN.own ?_ | refine VrN.norm (wrap_i64 (by omega)) ?_ | refine VrN.keep ?_ | refine DrawN.calm (by decide +kernel) ?_ | refine Nd.mk (by decide +kernel) ?_ | refine Nd.mk (by omega) ?_ | (refine Nd.mk ?_ ?_; focus ((repeat' (first | exact trivial | exact wkE_refl _ | refine And.intro ?_ ?_)); done)) | refine RdN.intro _ rfl (by rfl) ?_); (conv => whnf))))
      refine callQ (cmpInt_c nx ny _) ?_
      ((conv => whnf); (repeat ((first | refine BoxN.own ?_ | refine VrN.norm (wrap_i64 (by omega)) ?_ | refine VrN.keep ?_ | refine DrawN.calm (by decide +kernel) ?_ | refine Nd.mk (by decide +kernel) ?_ | refine Nd.mk (by omega) ?_ | (refine Nd.mk ?_ ?_; focus ((repeat' (first | exact trivial | exact wkE_refl _ | refine And.intro ?_ ?_)); done)) | refine RdN.intro _ rfl (by rfl) ?_); (conv => whnf))))
      refine callQ (cmpTxt_c tx ty _) ?_
      ((conv => whnf); (repeat ((first | refine BoxN.own ?_ | refine VrN.norm (wrap_i64 (by omega)) ?_ | refine VrN.keep ?_ | refine DrawN.calm (by decide +kernel) ?_ | refine Nd.mk (by decide +kernel) ?_ | refine Nd.mk (by omega) ?_ | (refine Nd.mk ?_ ?_; focus ((repeat' (first | exact trivial | exact wkE_refl _ | refine And.intro ?_ ?_)); done)) | refine RdN.intro _ rfl (by rfl) ?_); (conv => whnf))))
      refine RwN.known [.int .i64 (sgn nx ny), .int .i64 (tcmp tx ty)] rfl fun rb => ?_
      ((conv => whnf); (repeat ((first | refine BoxN.own ?_ | refine VrN.norm (wrap_i64 (by omega)) ?_ | refine VrN.keep ?_ | refine DrawN.calm (by decide +kernel) ?_ | refine Nd.mk (by decide +kernel) ?_ | refine Nd.mk (by omega) ?_ | (refine Nd.mk ?_ ?_; focus ((repeat' (first | exact trivial | exact wkE_refl _ | refine And.intro ?_ ?_)); done)) | refine RdN.intro _ rfl (by rfl) ?_); (conv => whnf))))
      refine call1 (Or_c (some ⟨rb, 0, none⟩) (sgn nx ny) (tcmp tx ty) rfl _ (fun w hw => hw.2.2.2.2.1)) ?_
      ((conv => whnf); (repeat ((first | refine BoxN.own ?_ | refine VrN.norm (wrap_i64 (by omega)) ?_ | refine VrN.keep ?_ | refine DrawN.calm (by decide +kernel) ?_ | refine Nd.mk (by decide +kernel) ?_ | refine Nd.mk (by omega) ?_ | (refine Nd.mk ?_ ?_; focus ((repeat' (first | exact trivial | exact wkE_refl _ | refine And.intro ?_ ?_)); done)) | refine RdN.intro _ rfl (by rfl) ?_); (conv => whnf))))
      obtain rfl : W = ((leafC ⟨4, nx, tx, nmx, ix⟩ ⟨4, ny, ty, nmy, iy⟩, 0), d) := by
        rw [hW, if_neg (by rintro (h | h); exact h rfl; exact absurd h (by decide)), if_pos (by decide)]
      exact ⟨⟨eu, cu, ed, cd⟩, ⟨hU, R, hR, fun _ => hD⟩, rfl, wkE_refl _, wkE_refl _, wkE_refl _, trivial⟩
    · (first | refine wX ?_ | exact wZ)
      refine brd_ne (fun h1 => ?_) (fun h1 => ?_)
      · (first | refine wX ?_ | exact wZ)
        -- no order
        obtain rfl : W = ((0, 3), d) := by rw [hW, if_pos (by first | exact .inl h1 | exact .inr (by decide))]
        exact ⟨⟨eu, cu, ed, cd⟩, ⟨hU, R, hR, fun h => by cases h⟩, rfl, wkE_refl _, wkE_refl _, wkE_refl _, trivial⟩
      obtain rfl : ky = _ := h1.symm
      (first | refine wX ?_ | exact wZ)
      refine DrawN.planQ [0, 2, 5, 7] [1, 3, 6, 8, 4, 9] [(10, 0), (11, 0), (12, 1), (13, 1)] (by decide +kernel) ?_
      ((conv => whnf); (repeat ((first | refine BoxN.own ?_ | refine VrN.norm (wrap_i64 (by omega)) ?_ | refine VrN.keep ?_ | refine DrawN.calm (by decide +kernel) ?_ | refine Nd.mk (by decide +kernel) ?_ | refine Nd.mk (by omega) ?_ | (refine Nd.mk ?_ ?_; focus ((repeat' (first | exact trivial | exact wkE_refl _ | refine And.intro ?_ ?_)); done)) | refine RdN.intro _ rfl (by rfl) ?_); (conv => whnf))))
      refine callQ (cmpInt_c nx ny _) ?_
      ((conv => whnf); (repeat ((first | refine BoxN.own ?_ | refine VrN.norm (wrap_i64 (by omega)) ?_ | refine VrN.keep ?_ | refine DrawN.calm (by decide +kernel) ?_ | refine Nd.mk (by decide +kernel) ?_ | refine Nd.mk (by omega) ?_ | (refine Nd.mk ?_ ?_; focus ((repeat' (first | exact trivial | exact wkE_refl _ | refine And.intro ?_ ?_)); done)) | refine RdN.intro _ rfl (by rfl) ?_); (conv => whnf))))
      refine callQ (cmpTxt_c tx ty _) ?_
      ((conv => whnf); (repeat ((first | refine BoxN.own ?_ | refine VrN.norm (wrap_i64 (by omega)) ?_ | refine VrN.keep ?_ | refine DrawN.calm (by decide +kernel) ?_ | refine Nd.mk (by decide +kernel) ?_ | refine Nd.mk (by omega) ?_ | (refine Nd.mk ?_ ?_; focus ((repeat' (first | exact trivial | exact wkE_refl _ | refine And.intro ?_ ?_)); done)) | refine RdN.intro _ rfl (by rfl) ?_); (conv => whnf))))
      refine RwN.known [.int .i64 (sgn nx ny), .int .i64 (tcmp tx ty)] rfl fun rb => ?_
      ((conv => whnf); (repeat ((first | refine BoxN.own ?_ | refine VrN.norm (wrap_i64 (by omega)) ?_ | refine VrN.keep ?_ | refine DrawN.calm (by decide +kernel) ?_ | refine Nd.mk (by decide +kernel) ?_ | refine Nd.mk (by omega) ?_ | (refine Nd.mk ?_ ?_; focus ((repeat' (first | exact trivial | exact wkE_refl _ | refine And.intro ?_ ?_)); done)) | refine RdN.intro _ rfl (by rfl) ?_); (conv => whnf))))
      refine call1 (Or_c (some ⟨rb, 0, none⟩) (sgn nx ny) (tcmp tx ty) rfl _ (fun w hw => hw.2.2.2.2.1)) ?_
      ((conv => whnf); (repeat ((first | refine BoxN.own ?_ | refine VrN.norm (wrap_i64 (by omega)) ?_ | refine VrN.keep ?_ | refine DrawN.calm (by decide +kernel) ?_ | refine Nd.mk (by decide +kernel) ?_ | refine Nd.mk (by omega) ?_ | (refine Nd.mk ?_ ?_; focus ((repeat' (first | exact trivial | exact wkE_refl _ | refine And.intro ?_ ?_)); done)) | refine RdN.intro _ rfl (by rfl) ?_); (conv => whnf))))
      obtain rfl : W = ((leafC ⟨5, nx, tx, nmx, ix⟩ ⟨5, ny, ty, nmy, iy⟩, 0), d) := by
        rw [hW, if_neg (by rintro (h | h); exact h rfl; exact absurd h (by decide)), if_pos (by decide)]
      exact ⟨⟨eu, cu, ed, cd⟩, ⟨hU, R, hR, fun _ => hD⟩, rfl, wkE_refl _, wkE_refl _, wkE_refl _, trivial⟩
    · (first | refine wX ?_ | exact wZ)
      refine brd_ne (fun h1 => ?_) (fun h1 => ?_)
      · (first | refine wX ?_ | exact wZ)
        -- no order
        obtain rfl : W = ((0, 3), d) := by rw [hW, if_pos (by first | exact .inl h1 | exact .inr (by decide))]
        exact ⟨⟨eu, cu, ed, cd⟩, ⟨hU, R, hR, fun h => by cases h⟩, rfl, wkE_refl _, wkE_refl _, wkE_refl _, trivial⟩
      obtain rfl : ky = 6 := h1.symm
      (first | refine wX ?_ | exact wZ)
      -- the map and the pair; ub: the map's cell, mu: the map, hw.2.2.1.2.2.1: the fact
      refine LdN.one (a := some ⟨ub, 0, none⟩) (q := 0) (.map (some mu)) rfl (fun w hw => hw.2.2.1.2.2.1) rfl ?_
      (first | refine wX ?_ | exact wZ)
      refine LdN.agg (a := some ⟨pb, 0, none⟩) (q := 0) [.int .i64 (x1 : Int), .int .i64 (y1 : Int)] rfl (fun w hw => hw.2.2.2.1) rfl (fun k hk => by rw [Nat.zero_add]) ?_
      (first | refine wX ?_ | exact wZ)
      refine ReadW.keyMap (et := 4) (p := ((x1 : Int), (y1 : Int))) (undR u) rfl mapPB pairK rfl rfl rfl rfl (fun w hw => hw.1) hU ?_
      have hgu := und_get u ((x1 : Int), (y1 : Int))
      unfold lk at hgu
      rw [hgu]
      (first | refine wX ?_ | exact wZ)
      refine brd_dec (fun hmu => ?_) (fun hmu => ?_)
      · obtain rfl : W = ((0, 10), d) := by
          rw [hW, if_neg (by rintro (h | h); exact h rfl; exact absurd h (by decide)), if_neg (by decide), if_pos hmu]
        (first | refine wX ?_ | exact wZ)
        exact ⟨⟨eu, cu, ed, cd⟩, ⟨hU, R, hR, fun h => by cases h⟩, rfl, wkE_refl _, wkE_refl _, wkE_refl _, trivial⟩
      (first | refine wX ?_ | exact wZ)
      -- the map and the pair; db: the map's cell, md: the map, hw.2.2.1.2.2.2.1: the fact
      refine LdN.one (a := some ⟨db, 0, none⟩) (q := 0) (.map (some md)) rfl (fun w hw => hw.2.2.1.2.2.2.1) rfl ?_
      (first | refine wX ?_ | exact wZ)
      refine LdN.agg (a := some ⟨pb, 0, none⟩) (q := 0) [.int .i64 (x1 : Int), .int .i64 (y1 : Int)] rfl (fun w hw => hw.2.2.2.1) rfl (fun k hk => by rw [Nat.zero_add]) ?_
      (first | refine wX ?_ | exact wZ)
      refine ReadW.keyMap (et := 4) (p := ((x1 : Int), (y1 : Int))) R rfl mapPB pairK rfl rfl rfl rfl (fun w hw => hw.2.1) hR ?_
      have hgd := hD ((x1 : Int), (y1 : Int))
      unfold lk at hgd
      rw [hgd]
      (first | refine wX ?_ | exact wZ)
      refine brd_dec (fun hmd => ?_) (fun hmd => ?_)
      · obtain rfl : W = ((0, 0), d) := by
          rw [hW, if_neg (by rintro (h | h); exact h rfl; exact absurd h (by decide)), if_neg (by decide), if_neg hmu, if_pos hmd]
        (first | refine wX ?_ | exact wZ)
        exact ⟨⟨eu, cu, ed, cd⟩, ⟨hU, R, hR, fun _ => hD⟩, rfl, wkE_refl _, wkE_refl _, wkE_refl _, trivial⟩
      rw [if_neg (by rintro (h | h); exact h rfl; exact absurd h (by decide)), if_neg (by decide), if_neg hmu, if_neg hmd] at hW
      (first | refine wX ?_ | exact wZ)
      -- the map and the pair; ub: the map's cell, mu: the map, hw.2.2.1.2.2.1: the fact
      refine LdN.one (a := some ⟨ub, 0, none⟩) (q := 0) (.map (some mu)) rfl (fun w hw => hw.2.2.1.2.2.1) rfl ?_
      (first | refine wX ?_ | exact wZ)
      refine LdN.agg (a := some ⟨pb, 0, none⟩) (q := 0) [.int .i64 (x1 : Int), .int .i64 (y1 : Int)] rfl (fun w hw => hw.2.2.2.1) rfl (fun k hk => by rw [Nat.zero_add]) ?_
      (first | refine wX ?_ | exact wZ)
      refine EffW.setMap (et := 4) (p := ((x1 : Int), (y1 : Int))) 0 (undR u) rfl mapPB pairK rfl rfl rfl rfl hU fun eu2 cu2 hU2 => ?_
      rw [und_put hmu] at hU2
      (first | refine wX ?_ | exact wZ)
      -- the map and the pair; ub: the map's cell, mu: the map, hw.2.2.1.2.2.1: the fact
      refine LdN.one (a := some ⟨ub, 0, none⟩) (q := 0) (.map (some mu)) rfl (fun w hw => hw.2.2.1.2.2.1) rfl ?_
      (first | refine wX ?_ | exact wZ)
      refine LdN.agg (a := some ⟨pb, 0, none⟩) (q := 0) [.int .i64 (x1 : Int), .int .i64 (y1 : Int)] rfl (fun w hw => hw.2.2.2.1) rfl (fun k hk => by rw [Nat.zero_add]) ?_
      (first | refine wX ?_ | exact wZ)
      refine ⟨rfl, rfl, ?_⟩
      (first | refine wX ?_ | exact wZ)
      obtain ⟨P, hP⟩ : ∃ P : CellP, P = ⟨⟨6, nx, tx, nmx, ix⟩, nax, ncx, iax, icx⟩ := ⟨_, rfl⟩
      obtain ⟨Q, hQ⟩ : ∃ Q : CellP, Q = ⟨⟨6, ny, ty, nmy, iy⟩, nay, ncy, iay, icy⟩ := ⟨_, rfl⟩
      obtain ⟨m, hm0⟩ : ∃ m, m = min ix.length iy.length := ⟨_, rfl⟩
      have hzl : (ix.zip iy).length = m := by rw [List.length_zip, hm0]
      have e1 : (⟨⟨6, nx, tx, nmx, ix⟩, nax, ncx, iax, icx⟩ : CellP).c.items.length = ix.length := rfl
      have e2 : (⟨⟨6, ny, ty, nmy, iy⟩, nay, ncy, iay, icy⟩ : CellP).c.items.length = iy.length := rfl
      have hixl : ix.length ≤ 2000 := hxs.2
      have hiyl : iy.length ≤ 2000 := hys.2
      have hlt := left_cons hp hmu
      have hds := (und_seek hmu).1
      have hde := (und_seek hmu).2
      obtain ⟨WL, hWL⟩ : ∃ WL, WL = cmpL (cmpF 3 10 (l.map (·.c)) n (((x1 : Int), (y1 : Int)) :: u)) d (ix.zip iy) := ⟨_, rfl⟩
      rw [← hWL] at hW
      refine LoopN.intro (Nat × MSt × List (Int × Int)) (fun ⟨k, st, d3⟩ => k ≤ m ∧ CmOk (((x1 : Int), (y1 : Int)) :: u) d3 True st ∧ cmpL (cmpF 3 10 (l.map (·.c)) n (((x1 : Int), (y1 : Int)) :: u)) d3 ((ix.zip iy).drop k) = WL)
        (fun ⟨k, _, _⟩ => mkS Tryz.f62.ntmps 0 [(4, .c (.v (.pointer (some ⟨db, 0, none⟩)))), (5, .c (.v (.pointer (some ⟨fb, 0, none⟩)))), (10, .c (.lp 3 0)), (11, .c (.lp 4 0)), (12, .c (.v (.pointer (some ⟨pb, 0, none⟩)))), (88, .c (.v (.int .i64 (m : Int)))), (89, .c (.v (.int .i64 (k : Int))))])
        (fun ⟨_, st, _⟩ => [.mp mu st.eu st.cu, .mp md st.ed st.cd, .fact (cmF a ca l gb ub db fb mu md), .blk 42 (vs (cellC ⟨⟨6, nx, tx, nmx, ix⟩, nax, ncx, iax, icx⟩)), .blk 42 (vs (cellC ⟨⟨6, ny, ty, nmy, iy⟩, nay, ncy, iay, icy⟩)), .app 95 2 [.int .i64 (x1 : Int), .int .i64 (y1 : Int)] (some ⟨pb, 0, none⟩) 1 1]) (fun ⟨k, _, _⟩ => m - k) [] rfl (fun ⟨_, _, _⟩ => rfl) (fun ⟨_, _, _⟩ => rfl) (fun ⟨_, _, _⟩ _ => okHB_eq rfl) ?_ ?_
      · refine ⟨(0, ⟨eu2, cu2, ed, cd⟩, d), ⟨Nat.zero_le _, ⟨hU2, R, hR, fun _ => hD⟩, hWL.symm⟩, ?_, wkE_refl _, wkE_refl _, wkE_refl _, wkE_refl _, wkE_refl _, wkE_refl _, trivial⟩
        (repeat' (first | exact trivial | refine And.intro (by with_reducible rfl) ?_ | (with_reducible exact wkC_refl _) | (with_reducible exact wkCs_refl _) | refine And.intro ?_ ?_))
        all_goals first | rfl | exact av_int (by rw [hm0]; unfold Go.AX.minI; split <;> omega)
      rintro ⟨k, ⟨eu3, cu3, ed3, cd3⟩, d3⟩ ⟨hk, ⟨hU3, R3, hR3, hD3⟩, hwk⟩
      have hD3 := hD3 trivial
      simp only at hU3 hR3
      (first | refine wX ?_ | exact wZ)
      refine brd_dec (fun h6 => ?_) (fun h6 => ?_)
      · obtain ⟨xi, hxi⟩ : ∃ z, ix[k]? = some z := ⟨_, List.getElem?_eq_getElem (by omega)⟩
        obtain ⟨yi, hyi⟩ : ∃ z, iy[k]? = some z := ⟨_, List.getElem?_eq_getElem (by omega)⟩
        have hxa : iax.isSome = true := by
          cases hq : iax with
          | none =>
              have hxe : ix = [] := hxo.ia hq
              rw [hxe] at hxi; cases hxi
          | some b => rfl
        have hya : iay.isSome = true := by
          cases hq : iay with
          | none =>
              have hye : iy = [] := hyo.ia hq
              rw [hye] at hyi; cases hyi
          | some b => rfl
        have hz : (ix.zip iy)[k]? = some (xi, yi) := List.getElem?_zip_eq_some.2 ⟨hxi, hyi⟩
        have hnx : nextP (l.map (·.c)) ((x1 : Int), (y1 : Int)) = ix.zip iy := by unfold nextP; rw [at_map hx, at_map hy]
        have hin : InP (l.map (·.c)) (xi, yi) := next_in hg hp (by rw [hnx]; exact List.mem_of_getElem? hz)
        ((conv => whnf); (repeat ((first | refine VrN.keep ?_ | refine BoxN.own ?_ | refine RwN.own ?_); (conv => whnf))))
        refine DrawN.plan [1, 3, 6, 8] [(0, 1), (2, 1), (4, 1), (5, 1), (7, 1), (9, 1), (10, 1)] [(11, 0), (12, 0), (13, 1), (14, 1), (15, 1), (16, 1)] (by decide +kernel) ?_
        (first | refine wX ?_ | exact wZ)
        refine LdN.one (a := some ⟨fb, 0, none⟩) (q := 0) (.func (.func 62) #[] #[.pointer (some ⟨gb, 0, none⟩), .pointer (some ⟨ub, 0, none⟩), .pointer (some ⟨db, 0, none⟩), .pointer (some ⟨fb, 0, none⟩)]) rfl (fun w hw => hw.2.2.1.2.2.2.2) rfl ?_
        (first | refine wX ?_ | exact wZ)
        refine Nd.mk ⟨hxa, by omega, by omega⟩ ?_
        (first | refine wX ?_ | exact wZ)
        refine LdN.one (.int .i64 xi) rfl (fun w hw => (hw.2.2.1.1.2 _ hxm).2) (by rw [Int.toNat_natCast]; show (iC ix)[k * 1]? = _; rw [Nat.mul_one]; exact iC_get hxi) ?_
        (first | refine wX ?_ | exact wZ)
        refine Nd.mk ⟨hya, by omega, by omega⟩ ?_
        (first | refine wX ?_ | exact wZ)
        refine LdN.one (.int .i64 yi) rfl (fun w hw => (hw.2.2.1.1.2 _ hym).2) (by rw [Int.toNat_natCast]; show (iC iy)[k * 1]? = _; rw [Nat.mul_one]; exact iC_get hyi) ?_
        (first | refine wX ?_ | exact wZ)
        refine SpecH.args (args' := cmA xi yi gb ub db fb) (by simp [cmA, pvs, opvs, opv, nth]; try rfl) ?_
        refine callG (ih (((x1 : Int), (y1 : Int)) :: u) d3 ⟨eu3, cu3, ed3, cd3⟩ (xi, yi) hin (by omega) ⟨hU3, R3, hR3, fun _ => hD3⟩) [0, 1, 2] rfl ⟨rfl, rfl, rfl, trivial⟩ rfl fun ⟨eu4, cu4, ed4, cd4⟩ hR4 => ?_
        obtain ⟨⟨⟨r1, r2⟩, d4⟩, hb⟩ : ∃ z, cmpF 3 10 (l.map (·.c)) n (((x1 : Int), (y1 : Int)) :: u) d3 (xi, yi) = z := ⟨_, rfl⟩
        rw [cmpL_at hz, hb] at hwk
        rw [hb] at hR4 ⊢
        obtain ⟨hU4, R4, hR4, hD4⟩ := hR4
        simp only at hwk hU4 hR4 hD4 ⊢
        (first | refine wX ?_ | exact wZ)
        refine brd_ne (fun hr1 => ?_) (fun hr1 => ?_)
        · have hne : ¬ (r1 = 0 ∧ r2 = 0) := fun h => hr1 h.1
          -- the answer is handed on
          rw [if_neg hne] at hwk
          have hWe : W = ((r1, r2), d4) := by
            rw [hW, ← hwk]
            simp only
            rw [if_neg hne]
          clear hW
          subst hWe
          (first | refine wX ?_ | exact wZ)
          refine QuitW.del (et := 4) (p := ((x1 : Int), (y1 : Int))) 0 (undR (((x1 : Int), (y1 : Int)) :: u)) rfl mapPB pairK rfl hU4 hds fun es5 hes5 => ?_
          rw [hde] at hes5
          (first | refine wX ?_ | exact wZ)
          exact ⟨⟨es5, cu4, ed4, cd4⟩, ⟨hes5, R4, hR4, fun h => absurd ⟨congrArg Prod.fst h, congrArg Prod.snd h⟩ hne⟩, rfl, wkE_refl _, wkE_refl _, wkE_refl _, trivial⟩
        (first | refine wX ?_ | exact wZ)
        refine brd_ne (fun hr2 => ?_) (fun hr2 => ?_)
        · have hne : ¬ (r1 = 0 ∧ r2 = 0) := fun h => hr2 h.2
          -- the answer is handed on
          rw [if_neg hne] at hwk
          have hWe : W = ((r1, r2), d4) := by
            rw [hW, ← hwk]
            simp only
            rw [if_neg hne]
          clear hW
          subst hWe
          (first | refine wX ?_ | exact wZ)
          refine QuitW.del (et := 4) (p := ((x1 : Int), (y1 : Int))) 0 (undR (((x1 : Int), (y1 : Int)) :: u)) rfl mapPB pairK rfl hU4 hds fun es5 hes5 => ?_
          rw [hde] at hes5
          (first | refine wX ?_ | exact wZ)
          exact ⟨⟨es5, cu4, ed4, cd4⟩, ⟨hes5, R4, hR4, fun h => absurd ⟨congrArg Prod.fst h, congrArg Prod.snd h⟩ hne⟩, rfl, wkE_refl _, wkE_refl _, wkE_refl _, trivial⟩
        rw [if_pos ⟨hr1, hr2⟩] at hwk
        (first | refine wX ?_ | exact wZ)
        refine ⟨(k + 1, ⟨eu4, cu4, ed4, cd4⟩, d4), ⟨by omega, ⟨hU4, R4, hR4, fun _ => hD4 (by rw [hr1, hr2])⟩, hwk⟩, by show m - (k + 1) < m - k; omega, ?_, wkE_refl _, wkE_refl _, wkE_refl _, wkE_refl _, wkE_refl _, wkE_refl _, trivial⟩
        (repeat' (first | exact trivial | refine And.intro (by with_reducible rfl) ?_ | (with_reducible exact wkC_refl _) | (with_reducible exact wkCs_refl _) | refine And.intro ?_ ?_))
        all_goals first | rfl | exact av_int (by rw [wrap_i64 (by omega)]; omega)
      · have hkm : k = m := by omega
        subst hkm
        rw [List.drop_of_length_le (by omega)] at hwk
        have hwk2 : ((0, 0), d3) = WL := hwk
        rw [← hwk2] at hW
        have hW2 : W = ((sgn (ix.length : Int) (iy.length : Int), 0), if sgn (ix.length : Int) (iy.length : Int) = 0 then ((x1 : Int), (y1 : Int)) :: d3 else d3) := by rw [hW]; simp
        clear hW
        (first | refine wX ?_ | exact wZ)
        refine call1 (cmpInt_c (ix.length : Int) (iy.length : Int) _) ?_
        generalize sgn (ix.length : Int) (iy.length : Int) = q at *
        by_cases hq : q = 0
        · subst hq
          rw [if_pos rfl] at hW2
          subst hW2
          (first | refine wX ?_ | exact wZ)
          -- the map and the pair; db: the map's cell, md: the map, hw.2.2.1.2.2.2.1: the fact
          refine LdN.one (a := some ⟨db, 0, none⟩) (q := 0) (.map (some md)) rfl (fun w hw => hw.2.2.1.2.2.2.1) rfl ?_
          (first | refine wX ?_ | exact wZ)
          refine LdN.agg (a := some ⟨pb, 0, none⟩) (q := 0) [.int .i64 (x1 : Int), .int .i64 (y1 : Int)] rfl (fun w hw => hw.2.2.2.1) rfl (fun k hk => by rw [Nat.zero_add]) ?_
          (first | refine wX ?_ | exact wZ)
          refine EffW.setMap (et := 4) (p := ((x1 : Int), (y1 : Int))) 1 R3 rfl mapPB pairK rfl rfl rfl rfl hR3 fun ed5 cd5 hR5 => ?_
          (first | refine wX ?_ | exact wZ)
          refine QuitW.del (et := 4) (p := ((x1 : Int), (y1 : Int))) 0 (undR (((x1 : Int), (y1 : Int)) :: u)) rfl mapPB pairK rfl hU3 hds fun es5 hes5 => ?_
          rw [hde] at hes5
          (first | refine wX ?_ | exact wZ)
          exact ⟨⟨es5, cu3, ed5, cd5⟩, ⟨hes5, _, hR5, fun _ => hD3.put _⟩, rfl, wkE_refl _, wkE_refl _, wkE_refl _, trivial⟩
        · rw [if_neg hq] at hW2
          subst hW2
          (first | refine wX ?_ | exact wZ)
          -- the map and the pair; db: the map's cell, md: the map, hw.2.2.1.2.2.2.1: the fact
          refine LdN.one (a := some ⟨db, 0, none⟩) (q := 0) (.map (some md)) rfl (fun w hw => hw.2.2.1.2.2.2.1) rfl ?_
          (first | refine wX ?_ | exact wZ)
          refine LdN.agg (a := some ⟨pb, 0, none⟩) (q := 0) [.int .i64 (x1 : Int), .int .i64 (y1 : Int)] rfl (fun w hw => hw.2.2.2.1) rfl (fun k hk => by rw [Nat.zero_add]) ?_
          (first | refine wX ?_ | exact wZ)
          refine EffW.setMap (et := 4) (p := ((x1 : Int), (y1 : Int))) 1 R3 rfl mapPB pairK rfl rfl rfl rfl hR3 fun ed5 cd5 hR5 => ?_
          (first | refine wX ?_ | exact wZ)
          refine QuitW.del (et := 4) (p := ((x1 : Int), (y1 : Int))) 0 (undR (((x1 : Int), (y1 : Int)) :: u)) rfl mapPB pairK rfl hU3 hds fun es5 hes5 => ?_
          rw [hde] at hes5
          (first | refine wX ?_ | exact wZ)
          exact ⟨⟨es5, cu3, ed5, cd5⟩, ⟨hes5, _, hR5, fun h => absurd (congrArg Prod.fst h) hq⟩, rfl, wkE_refl _, wkE_refl _, wkE_refl _, trivial⟩
    · (first | refine wX ?_ | exact wZ)
      refine brd_ne (fun h1 => ?_) (fun h1 => ?_)
      · (first | refine wX ?_ | exact wZ)
        -- no order
        obtain rfl : W = ((0, 3), d) := by rw [hW, if_pos (by first | exact .inl h1 | exact .inr (by decide))]
        exact ⟨⟨eu, cu, ed, cd⟩, ⟨hU, R, hR, fun h => by cases h⟩, rfl, wkE_refl _, wkE_refl _, wkE_refl _, trivial⟩
      · obtain rfl : ky = _ := h1.symm
        (first | refine wX ?_ | exact wZ)
        -- no order
        obtain rfl : W = ((0, 3), d) := by rw [hW, if_pos (by first | exact .inl h1 | exact .inr (by decide))]
        exact ⟨⟨eu, cu, ed, cd⟩, ⟨hU, R, hR, fun h => by cases h⟩, rfl, wkE_refl _, wkE_refl _, wkE_refl _, trivial⟩
    · (first | refine wX ?_ | exact wZ)
      refine brd_ne (fun h1 => ?_) (fun h1 => ?_)
      · (first | refine wX ?_ | exact wZ)
        -- no order
        obtain rfl : W = ((0, 3), d) := by rw [hW, if_pos (by first | exact .inl h1 | exact .inr (by decide))]
        exact ⟨⟨eu, cu, ed, cd⟩, ⟨hU, R, hR, fun h => by cases h⟩, rfl, wkE_refl _, wkE_refl _, wkE_refl _, trivial⟩
      · obtain rfl : ky = _ := h1.symm
        (first | refine wX ?_ | exact wZ)
        -- no order
        obtain rfl : W = ((0, 3), d) := by rw [hW, if_pos (by first | exact .inl h1 | exact .inr (by decide))]
        exact ⟨⟨eu, cu, ed, cd⟩, ⟨hU, R, hR, fun h => by cases h⟩, rfl, wkE_refl _, wkE_refl _, wkE_refl _, trivial⟩
end Go.Proofs.YtahjbnfbilkbcaaGreatDoor
