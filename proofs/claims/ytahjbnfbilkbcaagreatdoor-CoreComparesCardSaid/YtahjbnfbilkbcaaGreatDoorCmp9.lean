/-
  Lemmas (W4 W5 U2 U3 W6 U4 Z2 Z3 P13 Z4 Y1 Y2 Z5 Z6 Z7 Z8 Z9 Ax55 M1).
-/
import Derived.Lib.ItoaLen
import Derived.Lib.AppendIntMem
import Derived.Test.YtahjbnfbilkbcaaGreatDoorCmp8
/-
  Contract: the writer writes its first cell (program).
-/
namespace Go.Proofs.YtahjbnfbilkbcaaGreatDoor
open Go.AX Go.RowKit Go.Core Go.Scan
set_option maxRecDepth 20000

set_option maxHeartbeats 8000000 in
theorem write_f {a : Option Addr} (ca : Nat) {l : List CellP} {E : World → Prop} {qt : List UInt8 → List UInt8} {it : Int → List UInt8} (V : WEnv a l E qt it) (m : Nat) (hn : m + 1 ≤ 600) (out : List UInt8) (way : List Int) (i j : BSt) (u : Nat) (hi : i.ok out.length) (hj : j.ok way.length) (hu : u < l.length) (hw : way.Nodup) (hr : ∀ x ∈ way, 0 ≤ x ∧ x < (l.length : Int)) (hf : l.length + 2 ≤ m + 1 + way.length) (hM : ¬ 20000 < out.length) :
    SpecH Tryz.prog 51 [.c (.lp 0 0), .c (.v (.int .i64 (u : Int)))] (wH (.slice a l.length ca) (gF a l E) false out i way j) (wR (.slice a l.length ca) (gF a l E) way (writeS 20000 (leafS qt it) (l.map (·.c)) (m + 1) out way u)) := by
  have ih := write_t ca V m
  obtain ⟨p, hp⟩ : ∃ p, l[u]? = some p := ⟨_, List.getElem?_eq_getElem hu⟩
  have hpm := List.mem_of_getElem? hp
  have hsa : a.isSome = true := by
    have := V.ha
    cases a with
    | none => rw [this rfl] at hp; cases hp
    | some b => rfl
  have hat : at_ (l.map (·.c)) (u : Int) = p.c := at_map hp
  have hcd : cellD l.length p.c = true := by
    have := V.val.2.1 p.c (List.mem_map.2 ⟨p, hpm, rfl⟩)
    simpa using this
  have hpo := V.ok p hpm
  have hps := V.sm.2 p hpm
  have hsml := V.sm.1
  have hq4 := V.q p hpm
  have hit := V.i p hpm
  have hql := V.ql
  have hil3 := V.il
  have hsh := V.short
  have htx := cellD_text hcd
  have hk := cellD_kind hcd
  have hwl := way_le hw hr
  obtain ⟨⟨kind, num, text, names, items⟩, na, nc, ia, ic⟩ := p
  simp only at hat hcd hps hq4 hit hk htx
  have hkk : kind = 0 ∨ kind = 1 ∨ kind = 2 ∨ kind = 3 ∨ kind = 4 ∨ kind = 5 ∨ kind = 6 ∨ kind = 7 ∨ kind = 8 := by omega
  rcases hkk with rfl | rfl | rfl | rfl | rfl | rfl | rfl | rfl | rfl
  · -- [110, 105, 108]: the text of the leaf, 0: the kind
    have hwr : writeS 20000 (leafS qt it) (l.map (·.c)) (m + 1) out way u = out ++ ([110, 105, 108]) := by
      unfold writeS
      rw [if_neg hM, hat, if_pos (show isLeaf (Cell.mk 0 num text names items) = true from rfl)]
      rfl
    rw [hwr]
    -- 0: the kind
    refine ownC hm Tryz.func51 (by kernel_rfl) rfl rfl (fun _ _ => wH_ok _ _ _ _ _ _ _) (fun _ _ => Nat.le_refl _) ?_
    (first | refine wX ?_ | exact wZ)
    refine callG (Len_w _ _ way j false out i) [0, 1, 2, 3] rfl ⟨rfl, rfl, rfl, rfl, trivial⟩ rfl fun _ _ => ?_
    (first | refine wX ?_ | exact wZ)
    refine brd_dec (fun h => absurd h (by omega)) (fun _ => ?_)
    (first | refine wX ?_ | exact wZ)
    refine Nd.mk ⟨hsa, by omega, by omega⟩ ?_
    (first | refine wX ?_ | exact wZ)
    refine LdN.agg [.int .i64 0, .int .i64 num, .string (bs text), .slice na names.length nc, .slice ia items.length ic] rfl (fun w hw => hw.2.2.1.1.1) rfl (fun k hk => by rw [Int.toNat_natCast]; exact grC_get l u k hk hp) ?_
    ((conv => whnf); (repeat ((first | refine BoxN.own ?_ | refine RwN.own ?_ | refine VrN.norm (wrap_i64 (by omega)) ?_ | refine VrN.keep ?_ | refine Nd.mk (by decide +kernel) ?_ | refine Nd.mk (by omega) ?_ | (refine Nd.mk ?_ ?_; focus ((repeat' (first | exact trivial | exact wkE_refl _ | refine And.intro ?_ ?_)); done)) | refine RdN.intro _ rfl (by rfl) ?_); (conv => whnf))))
    -- [110, 105, 108]: the text of the leaf
    refine callG (WriteString_w _ _ way j false out ([110, 105, 108]) i hi (by first | omega | (simp; omega))) [0, 1, 2, 3] rfl ⟨rfl, rfl, rfl, rfl, trivial⟩ rfl fun i2 hi2 => ?_
    (first | refine wX ?_ | exact wZ)
    exact ⟨(i2, j), ⟨hi2, hj⟩, rfl, by (repeat' (first | exact trivial | exact wkE_refl _ | refine And.intro ?_ ?_))⟩
  · -- [116, 114, 117, 101]: the text of the leaf, 1: the kind
    have hwr : writeS 20000 (leafS qt it) (l.map (·.c)) (m + 1) out way u = out ++ ([116, 114, 117, 101]) := by
      unfold writeS
      rw [if_neg hM, hat, if_pos (show isLeaf (Cell.mk 1 num text names items) = true from rfl)]
      rfl
    rw [hwr]
    -- 1: the kind
    refine ownC hm Tryz.func51 (by kernel_rfl) rfl rfl (fun _ _ => wH_ok _ _ _ _ _ _ _) (fun _ _ => Nat.le_refl _) ?_
    (first | refine wX ?_ | exact wZ)
    refine callG (Len_w _ _ way j false out i) [0, 1, 2, 3] rfl ⟨rfl, rfl, rfl, rfl, trivial⟩ rfl fun _ _ => ?_
    (first | refine wX ?_ | exact wZ)
    refine brd_dec (fun h => absurd h (by omega)) (fun _ => ?_)
    (first | refine wX ?_ | exact wZ)
    refine Nd.mk ⟨hsa, by omega, by omega⟩ ?_
    (first | refine wX ?_ | exact wZ)
    refine LdN.agg [.int .i64 1, .int .i64 num, .string (bs text), .slice na names.length nc, .slice ia items.length ic] rfl (fun w hw => hw.2.2.1.1.1) rfl (fun k hk => by rw [Int.toNat_natCast]; exact grC_get l u k hk hp) ?_
    ((conv => whnf); (repeat ((first | refine BoxN.own ?_ | refine RwN.own ?_ | refine VrN.norm (wrap_i64 (by omega)) ?_ | refine VrN.keep ?_ | refine Nd.mk (by decide +kernel) ?_ | refine Nd.mk (by omega) ?_ | (refine Nd.mk ?_ ?_; focus ((repeat' (first | exact trivial | exact wkE_refl _ | refine And.intro ?_ ?_)); done)) | refine RdN.intro _ rfl (by rfl) ?_); (conv => whnf))))
    -- true: which, [116, 114, 117, 101]: the text
    refine DrawN.planQ [0, 3] [1, 2, 4, 5, 6] [(7, 0)] (by decide +kernel) ?_
    (first | refine wX ?_ | exact wZ)
    refine callQ (FormatBool_c true ([116, 114, 117, 101]) (by decide) _) ?_
    (first | refine wX ?_ | exact wZ)
    -- [116, 114, 117, 101]: the text of the leaf
    refine callG (WriteString_w _ _ way j false out ([116, 114, 117, 101]) i hi (by first | omega | (simp; omega))) [0, 1, 2, 3] rfl ⟨rfl, rfl, rfl, rfl, trivial⟩ rfl fun i2 hi2 => ?_
    (first | refine wX ?_ | exact wZ)
    exact ⟨(i2, j), ⟨hi2, hj⟩, rfl, by (repeat' (first | exact trivial | exact wkE_refl _ | refine And.intro ?_ ?_))⟩
  · -- [102, 97, 108, 115, 101]: the text of the leaf, 2: the kind
    have hwr : writeS 20000 (leafS qt it) (l.map (·.c)) (m + 1) out way u = out ++ ([102, 97, 108, 115, 101]) := by
      unfold writeS
      rw [if_neg hM, hat, if_pos (show isLeaf (Cell.mk 2 num text names items) = true from rfl)]
      rfl
    rw [hwr]
    -- 2: the kind
    refine ownC hm Tryz.func51 (by kernel_rfl) rfl rfl (fun _ _ => wH_ok _ _ _ _ _ _ _) (fun _ _ => Nat.le_refl _) ?_
    (first | refine wX ?_ | exact wZ)
    refine callG (Len_w _ _ way j false out i) [0, 1, 2, 3] rfl ⟨rfl, rfl, rfl, rfl, trivial⟩ rfl fun _ _ => ?_
    (first | refine wX ?_ | exact wZ)
    refine brd_dec (fun h => absurd h (by omega)) (fun _ => ?_)
    (first | refine wX ?_ | exact wZ)
    refine Nd.mk ⟨hsa, by omega, by omega⟩ ?_
    (first | refine wX ?_ | exact wZ)
    refine LdN.agg [.int .i64 2, .int .i64 num, .string (bs text), .slice na names.length nc, .slice ia items.length ic] rfl (fun w hw => hw.2.2.1.1.1) rfl (fun k hk => by rw [Int.toNat_natCast]; exact grC_get l u k hk hp) ?_
    ((conv => whnf); (repeat ((first | refine BoxN.own ?_ | refine RwN.own ?_ | refine VrN.norm (wrap_i64 (by omega)) ?_ | refine VrN.keep ?_ | refine Nd.mk (by decide +kernel) ?_ | refine Nd.mk (by omega) ?_ | (refine Nd.mk ?_ ?_; focus ((repeat' (first | exact trivial | exact wkE_refl _ | refine And.intro ?_ ?_)); done)) | refine RdN.intro _ rfl (by rfl) ?_); (conv => whnf))))
    -- false: which, [102, 97, 108, 115, 101]: the text
    refine DrawN.planQ [0, 3] [1, 2, 4, 5, 6] [(7, 0)] (by decide +kernel) ?_
    (first | refine wX ?_ | exact wZ)
    refine callQ (FormatBool_c false ([102, 97, 108, 115, 101]) (by decide) _) ?_
    (first | refine wX ?_ | exact wZ)
    -- [102, 97, 108, 115, 101]: the text of the leaf
    refine callG (WriteString_w _ _ way j false out ([102, 97, 108, 115, 101]) i hi (by first | omega | (simp; omega))) [0, 1, 2, 3] rfl ⟨rfl, rfl, rfl, rfl, trivial⟩ rfl fun i2 hi2 => ?_
    (first | refine wX ?_ | exact wZ)
    exact ⟨(i2, j), ⟨hi2, hj⟩, rfl, by (repeat' (first | exact trivial | exact wkE_refl _ | refine And.intro ?_ ?_))⟩
  · -- it num: the text of the leaf, 3: the kind
    have hwr : writeS 20000 (leafS qt it) (l.map (·.c)) (m + 1) out way u = out ++ (it num) := by
      unfold writeS
      rw [if_neg hM, hat, if_pos (show isLeaf (Cell.mk 3 num text names items) = true from rfl)]
      rfl
    rw [hwr]
    -- 3: the kind
    refine ownC hm Tryz.func51 (by kernel_rfl) rfl rfl (fun _ _ => wH_ok _ _ _ _ _ _ _) (fun _ _ => Nat.le_refl _) ?_
    (first | refine wX ?_ | exact wZ)
    refine callG (Len_w _ _ way j false out i) [0, 1, 2, 3] rfl ⟨rfl, rfl, rfl, rfl, trivial⟩ rfl fun _ _ => ?_
    (first | refine wX ?_ | exact wZ)
    refine brd_dec (fun h => absurd h (by omega)) (fun _ => ?_)
    (first | refine wX ?_ | exact wZ)
    refine Nd.mk ⟨hsa, by omega, by omega⟩ ?_
    (first | refine wX ?_ | exact wZ)
    refine LdN.agg [.int .i64 3, .int .i64 num, .string (bs text), .slice na names.length nc, .slice ia items.length ic] rfl (fun w hw => hw.2.2.1.1.1) rfl (fun k hk => by rw [Int.toNat_natCast]; exact grC_get l u k hk hp) ?_
    ((conv => whnf); (repeat ((first | refine BoxN.own ?_ | refine RwN.own ?_ | refine VrN.norm (wrap_i64 (by omega)) ?_ | refine VrN.keep ?_ | refine Nd.mk (by decide +kernel) ?_ | refine Nd.mk (by omega) ?_ | (refine Nd.mk ?_ ?_; focus ((repeat' (first | exact trivial | exact wkE_refl _ | refine And.intro ?_ ?_)); done)) | refine RdN.intro _ rfl (by rfl) ?_); (conv => whnf))))
    refine DrawN.planQ [0, 3] [1, 2, 4, 5] [(6, 0)] (by decide +kernel) ?_
    (first | refine wX ?_ | exact wZ)
    refine callQ (hit rfl _ (fun w hw => hw.2.2.1.2)) ?_
    (first | refine wX ?_ | exact wZ)
    have := hil3 num
    -- it num: the text of the leaf
    refine callG (WriteString_w _ _ way j false out (it num) i hi (by first | omega | (simp; omega))) [0, 1, 2, 3] rfl ⟨rfl, rfl, rfl, rfl, trivial⟩ rfl fun i2 hi2 => ?_
    (first | refine wX ?_ | exact wZ)
    exact ⟨(i2, j), ⟨hi2, hj⟩, rfl, by (repeat' (first | exact trivial | exact wkE_refl _ | refine And.intro ?_ ?_))⟩
  · -- [34] ++ qt text ++ [34]: the text of the leaf, 4: the kind
    have hwr : writeS 20000 (leafS qt it) (l.map (·.c)) (m + 1) out way u = out ++ ([34] ++ qt text ++ [34]) := by
      unfold writeS
      rw [if_neg hM, hat, if_pos (show isLeaf (Cell.mk 4 num text names items) = true from rfl)]
      rfl
    rw [hwr]
    -- 4: the kind
    refine ownC hm Tryz.func51 (by kernel_rfl) rfl rfl (fun _ _ => wH_ok _ _ _ _ _ _ _) (fun _ _ => Nat.le_refl _) ?_
    (first | refine wX ?_ | exact wZ)
    refine callG (Len_w _ _ way j false out i) [0, 1, 2, 3] rfl ⟨rfl, rfl, rfl, rfl, trivial⟩ rfl fun _ _ => ?_
    (first | refine wX ?_ | exact wZ)
    refine brd_dec (fun h => absurd h (by omega)) (fun _ => ?_)
    (first | refine wX ?_ | exact wZ)
    refine Nd.mk ⟨hsa, by omega, by omega⟩ ?_
    (first | refine wX ?_ | exact wZ)
    refine LdN.agg [.int .i64 4, .int .i64 num, .string (bs text), .slice na names.length nc, .slice ia items.length ic] rfl (fun w hw => hw.2.2.1.1.1) rfl (fun k hk => by rw [Int.toNat_natCast]; exact grC_get l u k hk hp) ?_
    ((conv => whnf); (repeat ((first | refine BoxN.own ?_ | refine RwN.own ?_ | refine VrN.norm (wrap_i64 (by omega)) ?_ | refine VrN.keep ?_ | refine Nd.mk (by decide +kernel) ?_ | refine Nd.mk (by omega) ?_ | (refine Nd.mk ?_ ?_; focus ((repeat' (first | exact trivial | exact wkE_refl _ | refine And.intro ?_ ?_)); done)) | refine RdN.intro _ rfl (by rfl) ?_); (conv => whnf))))
    refine DrawN.planQ [0, 3] [1, 2, 4, 5, 6, 7] [(8, 0)] (by decide +kernel) ?_
    (first | refine wX ?_ | exact wZ)
    refine callQ (hq4 rfl _) ?_
    (first | refine wX ?_ | exact wZ)
    have hq1 := hql text
    refine Nd.mk (by show 1 + (bs (qt text)).size < _; rw [bs_size]; omega) ?_
    (first | refine wX ?_ | exact wZ)
    rw [show (({ data := #[34] } : ByteArray) ++ bs (qt text)) = bs ([34] ++ qt text) by rw [← bs_app]; rfl]
    refine Nd.mk (by show (bs ([34] ++ qt text)).size + 1 < _; rw [bs_size]; simp; omega) ?_
    rw [show (bs ([34] ++ qt text) ++ ({ data := #[34] } : ByteArray)) = bs ([34] ++ qt text ++ [34]) by rw [← bs_app]; rfl]
    (first | refine wX ?_ | exact wZ)
    -- [34] ++ qt text ++ [34]: the text of the leaf
    refine callG (WriteString_w _ _ way j false out ([34] ++ qt text ++ [34]) i hi (by first | omega | (simp; omega))) [0, 1, 2, 3] rfl ⟨rfl, rfl, rfl, rfl, trivial⟩ rfl fun i2 hi2 => ?_
    (first | refine wX ?_ | exact wZ)
    exact ⟨(i2, j), ⟨hi2, hj⟩, rfl, by (repeat' (first | exact trivial | exact wkE_refl _ | refine And.intro ?_ ?_))⟩
  · -- [58] ++ text: the text of the leaf, 5: the kind
    have hwr : writeS 20000 (leafS qt it) (l.map (·.c)) (m + 1) out way u = out ++ ([58] ++ text) := by
      unfold writeS
      rw [if_neg hM, hat, if_pos (show isLeaf (Cell.mk 5 num text names items) = true from rfl)]
      rfl
    rw [hwr]
    -- 5: the kind
    refine ownC hm Tryz.func51 (by kernel_rfl) rfl rfl (fun _ _ => wH_ok _ _ _ _ _ _ _) (fun _ _ => Nat.le_refl _) ?_
    (first | refine wX ?_ | exact wZ)
    refine callG (Len_w _ _ way j false out i) [0, 1, 2, 3] rfl ⟨rfl, rfl, rfl, rfl, trivial⟩ rfl fun _ _ => ?_
    (first | refine wX ?_ | exact wZ)
    refine brd_dec (fun h => absurd h (by omega)) (fun _ => ?_)
    (first | refine wX ?_ | exact wZ)
    refine Nd.mk ⟨hsa, by omega, by omega⟩ ?_
    (first | refine wX ?_ | exact wZ)
    refine LdN.agg [.int .i64 5, .int .i64 num, .string (bs text), .slice na names.length nc, .slice ia items.length ic] rfl (fun w hw => hw.2.2.1.1.1) rfl (fun k hk => by rw [Int.toNat_natCast]; exact grC_get l u k hk hp) ?_
    ((conv => whnf); (repeat ((first | refine BoxN.own ?_ | refine RwN.own ?_ | refine VrN.norm (wrap_i64 (by omega)) ?_ | refine VrN.keep ?_ | refine Nd.mk (by decide +kernel) ?_ | refine Nd.mk (by omega) ?_ | (refine Nd.mk ?_ ?_; focus ((repeat' (first | exact trivial | exact wkE_refl _ | refine And.intro ?_ ?_)); done)) | refine RdN.intro _ rfl (by rfl) ?_); (conv => whnf))))
    refine DrawN.planQ [0, 3] [1, 2, 4, 5] [(6, 0)] (by decide +kernel) ?_
    (first | refine wX ?_ | exact wZ)
    refine Nd.mk (by show 1 + (bs text).size < _; rw [bs_size]; omega) ?_
    rw [show (({ data := #[58] } : ByteArray) ++ bs text) = bs ([58] ++ text) by rw [← bs_app]; rfl]
    (first | refine wX ?_ | exact wZ)
    -- [58] ++ text: the text of the leaf
    refine callG (WriteString_w _ _ way j false out ([58] ++ text) i hi (by first | omega | (simp; omega))) [0, 1, 2, 3] rfl ⟨rfl, rfl, rfl, rfl, trivial⟩ rfl fun i2 hi2 => ?_
    (first | refine wX ?_ | exact wZ)
    exact ⟨(i2, j), ⟨hi2, hj⟩, rfl, by (repeat' (first | exact trivial | exact wkE_refl _ | refine And.intro ?_ ?_))⟩
  · -- 6: the kind
    rw [writeS_in hM hat (fun h => absurd (of_decide_eq_true h) (by show ¬ (6 : Int) ≤ 5; decide))]
    -- 6: the kind
    refine ownC hm Tryz.func51 (by kernel_rfl) rfl rfl (fun _ _ => wH_ok _ _ _ _ _ _ _) (fun _ _ => Nat.le_refl _) ?_
    (first | refine wX ?_ | exact wZ)
    refine callG (Len_w _ _ way j false out i) [0, 1, 2, 3] rfl ⟨rfl, rfl, rfl, rfl, trivial⟩ rfl fun _ _ => ?_
    (first | refine wX ?_ | exact wZ)
    refine brd_dec (fun h => absurd h (by omega)) (fun _ => ?_)
    (first | refine wX ?_ | exact wZ)
    refine Nd.mk ⟨hsa, by omega, by omega⟩ ?_
    (first | refine wX ?_ | exact wZ)
    refine LdN.agg [.int .i64 6, .int .i64 num, .string (bs text), .slice na names.length nc, .slice ia items.length ic] rfl (fun w hw => hw.2.2.1.1.1) rfl (fun k hk => by rw [Int.toNat_natCast]; exact grC_get l u k hk hp) ?_
    ((conv => whnf); (repeat ((first | refine BoxN.own ?_ | refine RwN.own ?_ | refine VrN.norm (wrap_i64 (by omega)) ?_ | refine VrN.keep ?_ | refine Nd.mk (by decide +kernel) ?_ | refine Nd.mk (by omega) ?_ | (refine Nd.mk ?_ ?_; focus ((repeat' (first | exact trivial | exact wkE_refl _ | refine And.intro ?_ ?_)); done)) | refine RdN.intro _ rfl (by rfl) ?_); (conv => whnf))))
    refine spec_of_exec hm Tryz.func99 (by kernel_rfl) rfl rfl ?_
    ((conv => whnf); (repeat ((first | refine BoxN.own ?_ | refine RwN.own ?_ | refine VrN.norm (wrap_i64 (by omega)) ?_ | refine VrN.keep ?_ | refine Nd.mk (by decide +kernel) ?_ | refine Nd.mk (by omega) ?_ | (refine Nd.mk ?_ ?_; focus ((repeat' (first | exact trivial | exact wkE_refl _ | refine And.intro ?_ ?_)); done)) | refine RdN.intro _ rfl (by rfl) ?_); (conv => whnf))))
    refine SpecH.args (args' := pvs [.slice (at0 j.ob) way.length j.cap, .int .i64 (u : Int)]) (by simp [pvs, opvs, opv, nth]; try rfl) ?_
    refine call1 (contains_c j.ob j.cap way u (fun h => List.eq_nil_of_length_eq_zero (hj.1 h).1) (by omega) _ (fun w hw => hw.2.1)) ?_
    ((conv => whnf); (repeat ((first | refine BoxN.own ?_ | refine RwN.own ?_ | refine VrN.norm (wrap_i64 (by omega)) ?_ | refine VrN.keep ?_ | refine Nd.mk (by decide +kernel) ?_ | refine Nd.mk (by omega) ?_ | (refine Nd.mk ?_ ?_; focus ((repeat' (first | exact trivial | exact wkE_refl _ | refine And.intro ?_ ?_)); done)) | refine RdN.intro _ rfl (by rfl) ?_); (conv => whnf))))
    try refine Nd.mk ⟨Nat.le_refl 1, rfl, rfl⟩ ?_
    (conv => whnf)
    refine AppN.grow 2 (iC way) [.int .i64 (u : Int)] rfl rfl ⟨Nat.le_refl 1, ⟨by show (way.length + 1) * 8 ≤ _; omega, by omega⟩, Nat.one_ne_zero⟩ fun wb wc hwc _ => ?_
    obtain ⟨way2, hway2⟩ : ∃ w2, w2 = way ++ [(u : Int)] := ⟨_, rfl⟩
    have hcl : iC way ++ [.int .i64 (u : Int)] = iC way2 := by rw [hway2]; simp [iC]
    have hll : way.length + 1 = way2.length := by rw [hway2]; simp
    rw [hcl, hll]
    ((conv => whnf); (repeat ((first | refine BoxN.own ?_ | refine RwN.own ?_ | refine VrN.norm (wrap_i64 (by omega)) ?_ | refine VrN.keep ?_ | refine Nd.mk (by decide +kernel) ?_ | refine Nd.mk (by omega) ?_ | (refine Nd.mk ?_ ?_; focus ((repeat' (first | exact trivial | exact wkE_refl _ | refine And.intro ?_ ?_)); done)) | refine RdN.intro _ rfl (by rfl) ?_); (conv => whnf))))
    -- [91]: what is written, i2: the place behind
    refine callG (WriteString_w _ _ way2 ⟨some wb, wc⟩ false out ([91]) i hi (by first | omega | (simp; omega))) [0, 1, 2, 3] rfl ⟨rfl, rfl, rfl, rfl, trivial⟩ rfl fun i2 hi2 => ?_
    ((conv => whnf); (repeat ((first | refine BoxN.own ?_ | refine RwN.own ?_ | refine VrN.norm (wrap_i64 (by omega)) ?_ | refine VrN.keep ?_ | refine Nd.mk (by decide +kernel) ?_ | refine Nd.mk (by omega) ?_ | (refine Nd.mk ?_ ?_; focus ((repeat' (first | exact trivial | exact wkE_refl _ | refine And.intro ?_ ?_)); done)) | refine RdN.intro _ rfl (by rfl) ?_); (conv => whnf))))
    -- [91]: front, [46, 46, 46]: mark, [93]: back
    cases hun : decide ((u : Int) ∈ way) with
    | true =>
      rw [if_pos (of_decide_eq_true hun)]
      ((conv => whnf); (repeat ((first | refine BoxN.own ?_ | refine RwN.own ?_ | refine VrN.norm (wrap_i64 (by omega)) ?_ | refine VrN.keep ?_ | refine Nd.mk (by decide +kernel) ?_ | refine Nd.mk (by omega) ?_ | (refine Nd.mk ?_ ?_; focus ((repeat' (first | exact trivial | exact wkE_refl _ | refine And.intro ?_ ?_)); done)) | refine RdN.intro _ rfl (by rfl) ?_); (conv => whnf))))
      -- out ++ ([91]): what is there, [46, 46, 46]: what is written, i2: the Builder's place, hi2: its word, i3: the place behind
      refine callG (WriteString_w _ _ way2 ⟨some wb, wc⟩ true (out ++ ([91])) ([46, 46, 46]) i2 hi2 (by first | omega | (simp; omega))) [0, 1, 2, 3] rfl ⟨rfl, rfl, rfl, rfl, trivial⟩ rfl fun i3 hi3 => ?_
      ((conv => whnf); (repeat ((first | refine BoxN.own ?_ | refine RwN.own ?_ | refine VrN.norm (wrap_i64 (by omega)) ?_ | refine VrN.keep ?_ | refine Nd.mk (by decide +kernel) ?_ | refine Nd.mk (by omega) ?_ | (refine Nd.mk ?_ ?_; focus ((repeat' (first | exact trivial | exact wkE_refl _ | refine And.intro ?_ ?_)); done)) | refine RdN.intro _ rfl (by rfl) ?_); (conv => whnf))))
      -- out ++ ([91]) ++ ([46, 46, 46]): what is there, [93]: what is written, i3: the Builder's place, hi3: its word, i4: the place behind
      refine callG (WriteString_w _ _ way2 ⟨some wb, wc⟩ true (out ++ ([91]) ++ ([46, 46, 46])) ([93]) i3 hi3 (by first | omega | (simp; omega))) [0, 1, 2, 3] rfl ⟨rfl, rfl, rfl, rfl, trivial⟩ rfl fun i4 hi4 => ?_
      ((conv => whnf); (repeat ((first | refine BoxN.own ?_ | refine RwN.own ?_ | refine VrN.norm (wrap_i64 (by omega)) ?_ | refine VrN.keep ?_ | refine Nd.mk (by decide +kernel) ?_ | refine Nd.mk (by omega) ?_ | (refine Nd.mk ?_ ?_; focus ((repeat' (first | exact trivial | exact wkE_refl _ | refine And.intro ?_ ?_)); done)) | refine RdN.intro _ rfl (by rfl) ?_); (conv => whnf))))
      -- i4: the Builder's place
      refine DrawN.plan [0, 1, 5] [(2, 1), (3, 1), (4, 1), (6, 1), (7, 1), (8, 1), (9, 1), (10, 1), (11, 1), (12, 1), (13, 1)] [(14, 0)] (by decide +kernel) ?_
      ((conv => whnf); (repeat ((first | refine BoxN.own ?_ | refine RwN.own ?_ | refine VrN.norm (wrap_i64 (by omega)) ?_ | refine VrN.keep ?_ | refine Nd.mk (by decide +kernel) ?_ | refine Nd.mk (by omega) ?_ | (refine Nd.mk ?_ ?_; focus ((repeat' (first | exact trivial | exact wkE_refl _ | refine And.intro ?_ ?_)); done)) | refine RdN.intro _ rfl (by rfl) ?_); (conv => whnf))))
      rw [show IntKind.i64.wrap ((way2.length : Int) - 1) = (way.length : Int) by rw [wrap_i64 (by omega)]; omega]
      refine ReadW.slc_hi rfl (by kernel_rfl) rfl rfl (by show (0 : Int) ≤ (way.length : Int) ∧ (way.length : Int) ≤ (wc : Int); omega) ?_
      rw [Int.toNat_natCast]
      ((conv => whnf); (repeat ((first | refine BoxN.own ?_ | refine RwN.own ?_ | refine VrN.norm (wrap_i64 (by omega)) ?_ | refine VrN.keep ?_ | refine Nd.mk (by decide +kernel) ?_ | refine Nd.mk (by omega) ?_ | (refine Nd.mk ?_ ?_; focus ((repeat' (first | exact trivial | exact wkE_refl _ | refine And.intro ?_ ?_)); done)) | refine RdN.intro _ rfl (by rfl) ?_); (conv => whnf))))
      refine ⟨(i4, ⟨some wb, wc⟩), ⟨hi4, (fun h => by cases h), by show way.length ≤ wc; omega, fun h => by have : wc = 0 := h; omega⟩, rfl, ⟨rfl, rfl, rfl, rfl, rfl, trivial⟩, wkE_refl _, .inr (.inr ⟨rfl, rfl, ?_, rfl, by omega, rfl⟩), wkE_refl _, trivial⟩
      rw [hway2, Nat.mul_one]
      simp [iC]
    | false =>
    rw [if_neg (of_decide_eq_false hun)]
    ((conv => whnf); (repeat ((first | refine BoxN.own ?_ | refine RwN.own ?_ | refine VrN.norm (wrap_i64 (by omega)) ?_ | refine VrN.keep ?_ | refine Nd.mk (by decide +kernel) ?_ | refine Nd.mk (by omega) ?_ | (refine Nd.mk ?_ ?_; focus ((repeat' (first | exact trivial | exact wkE_refl _ | refine And.intro ?_ ?_)); done)) | refine RdN.intro _ rfl (by rfl) ?_); (conv => whnf))))
    -- 6: the kind, [91]: the front
    rw [← hway2]
    have hnd2 : way2.Nodup := by
      rw [hway2]
      exact List.nodup_append.2 ⟨hw, by simp, fun x hx y hy => by
        rw [List.mem_singleton.1 hy]
        intro e
        subst e
        exact of_decide_eq_false hun hx⟩
    have hr2 : ∀ x ∈ way2, 0 ≤ x ∧ x < (l.length : Int) := fun x hx => by
      rw [hway2] at hx
      rcases List.mem_append.1 hx with hx | hx
      · exact hr x hx
      · rw [List.mem_singleton.1 hx]; omega
    obtain ⟨ff, hff⟩ : ∃ ff, ff = fun o k => writeS 20000 (leafS qt it) (l.map (·.c)) m o way2 k := ⟨_, rfl⟩
    rw [← hff]
    have hfx : ∀ o x, ff o x = writeS 20000 (leafS qt it) (l.map (·.c)) m o way2 x := fun o x => by rw [hff]
    have hpre : ∀ i, (preT (Cell.mk 6 num text names items) i).length ≤ 50 := fun i => by
      have := pre_le hsh (u : Int) i
      rw [hat] at this
      exact this
    have hfold : ∀ k, (foldT ff (preT (Cell.mk 6 num text names items)) 0 (items.take k) (out ++ ([91]))).length ≤ 130000000 := fun k => by
      have hfl : (out ++ ([91])).length ≤ out.length + 2002 := by simp; try omega
      have := foldT_len (M := 20000) (f := ff) (pre := preT (Cell.mk 6 num text names items)) (p := 50) (X := 20000 + m * 200000) hpre (by omega) (fun o k ho => by rw [hff]; exact write_same m o _ k ho) (fun o k ho => by rw [hff]; have := write_len (M := 20000) hsh m o way2 k; show (writeS _ _ _ _ _ _ _).length ≤ _; omega) (items.take k) 0 (out ++ ([91])) (22002 + m * 200000) (by omega) (by omega)
      rw [List.length_take] at this
      omega
    refine spec_of_exec hm Tryz.func122 (by kernel_rfl) rfl rfl ?_
    ((conv => whnf); (repeat ((first | refine BoxN.own ?_ | refine RwN.own ?_ | refine VrN.norm (wrap_i64 (by omega)) ?_ | refine VrN.keep ?_ | refine Nd.mk (by decide +kernel) ?_ | refine Nd.mk (by omega) ?_ | (refine Nd.mk ?_ ?_; focus ((repeat' (first | exact trivial | exact wkE_refl _ | refine And.intro ?_ ?_)); done)) | refine RdN.intro _ rfl (by rfl) ?_); (conv => whnf))))
    -- 6: the kind, [91]: the front
    refine LoopN.intro (Nat × BSt × BSt) (fun ⟨k, i, j⟩ => k ≤ items.length ∧ i.ok (foldT ff (preT (Cell.mk 6 num text names items)) 0 (items.take k) (out ++ ([91]))).length ∧ j.ok way2.length) (fun ⟨k, _, _⟩ => mkS Tryz.f122.ntmps 0 [(0, .c (.lp 0 0)), (3, .c (.lp 7 0)), (7, .c (.v (.slice ia items.length ic))), (8, .c (.v (.int .i64 (items.length : Int)))), (9, .c (.v (.int .i64 (k : Int))))])
      (fun ⟨k, i, j⟩ => wH (.slice a l.length ca) (gF a l E) true (foldT ff (preT (Cell.mk 6 num text names items)) 0 (items.take k) (out ++ ([91]))) i way2 j ++ [.dead, .dead, .dead, .blk 42 [.v (.int .i64 6), .v (.int .i64 num), .v (.string (bs text)), .v (.slice na names.length nc), .v (.slice ia items.length ic)]]) (fun ⟨k, _, _⟩ => items.length - k) [] rfl (fun ⟨_, _, _⟩ => rfl) (fun ⟨_, _, _⟩ => rfl) (fun ⟨_, _, _⟩ _ => okHB_eq rfl) ?_ ?_
    · refine ⟨(0, i2, ⟨some wb, wc⟩), ⟨Nat.zero_le _, hi2, (fun h => by cases h), by show way2.length ≤ wc; omega, fun h => by have : wc = 0 := h; omega⟩, ?_, wkE_refl _, wkE_refl _, wkE_refl _, wkE_refl _, trivial, trivial, trivial, wkE_refl _, trivial⟩
      (repeat' (first | exact trivial | refine And.intro (by with_reducible rfl) ?_ | (with_reducible exact wkC_refl _) | (with_reducible exact wkCs_refl _) | refine And.intro ?_ ?_))
      all_goals rfl
    rintro ⟨k, i3, j3⟩ ⟨hk3, hi3, hj3⟩
    ((conv => whnf); (repeat ((first | refine BoxN.own ?_ | refine RwN.own ?_ | refine VrN.norm (wrap_i64 (by omega)) ?_ | refine VrN.keep ?_ | refine Nd.mk (by decide +kernel) ?_ | refine Nd.mk (by omega) ?_ | (refine Nd.mk ?_ ?_; focus ((repeat' (first | exact trivial | exact wkE_refl _ | refine And.intro ?_ ?_)); done)) | refine RdN.intro _ rfl (by rfl) ?_); (conv => whnf))))
    refine brd_dec (fun h1 => ?_) (fun h1 => ?_)
    · obtain ⟨x, hx⟩ : ∃ x, items[k]? = some x := ⟨_, List.getElem?_eq_getElem (by omega)⟩
      have hxin := cellD_in hcd x (List.mem_of_getElem? hx)
      obtain ⟨xn, rfl⟩ : ∃ xn : Nat, x = (xn : Int) := ⟨x.toNat, by omega⟩
      have hx1 : xn < l.length := by omega
      have hsi : ia.isSome = true := by
        have := hpo.ia
        cases ia with
        | none =>
          have h0 : items = [] := this rfl
          rw [h0] at hx
          cases hx
        | some b => rfl
      ((conv => whnf); (repeat ((first | refine BoxN.own ?_ | refine RwN.own ?_ | refine VrN.norm (wrap_i64 (by omega)) ?_ | refine VrN.keep ?_ | refine Nd.mk (by decide +kernel) ?_ | refine Nd.mk (by omega) ?_ | (refine Nd.mk ?_ ?_; focus ((repeat' (first | exact trivial | exact wkE_refl _ | refine And.intro ?_ ?_)); done)) | refine RdN.intro _ rfl (by rfl) ?_); (conv => whnf))))
      refine Nd.mk ⟨hsi, by omega, by omega⟩ ?_
      ((conv => whnf); (repeat ((first | refine BoxN.own ?_ | refine RwN.own ?_ | refine VrN.norm (wrap_i64 (by omega)) ?_ | refine VrN.keep ?_ | refine Nd.mk (by decide +kernel) ?_ | refine Nd.mk (by omega) ?_ | (refine Nd.mk ?_ ?_; focus ((repeat' (first | exact trivial | exact wkE_refl _ | refine And.intro ?_ ?_)); done)) | refine RdN.intro _ rfl (by rfl) ?_); (conv => whnf))))
      refine LdN.one (.int .i64 (xn : Int)) rfl (fun w hw => (hw.2.2.1.1.2 _ hpm).2) (by rw [Int.toNat_natCast]; show (iC items)[k * 1]? = _; rw [Nat.mul_one]; exact iC_get hx) ?_
      ((conv => whnf); (repeat ((first | refine BoxN.own ?_ | refine RwN.own ?_ | refine VrN.norm (wrap_i64 (by omega)) ?_ | refine VrN.keep ?_ | refine Nd.mk (by decide +kernel) ?_ | refine Nd.mk (by omega) ?_ | (refine Nd.mk ?_ ?_; focus ((repeat' (first | exact trivial | exact wkE_refl _ | refine And.intro ?_ ?_)); done)) | refine RdN.intro _ rfl (by rfl) ?_); (conv => whnf))))
      refine brd_dec (fun hk0 => ?_) (fun hk0 => ?_)
      · ((conv => whnf); (repeat ((first | refine BoxN.own ?_ | refine RwN.own ?_ | refine VrN.norm (wrap_i64 (by omega)) ?_ | refine VrN.keep ?_ | refine Nd.mk (by decide +kernel) ?_ | refine Nd.mk (by omega) ?_ | (refine Nd.mk ?_ ?_; focus ((repeat' (first | exact trivial | exact wkE_refl _ | refine And.intro ?_ ?_)); done)) | refine RdN.intro _ rfl (by rfl) ?_); (conv => whnf))))
        -- 6: the kind, [91]: the front, [44, 32]: what stands ahead, by rw [preT_6 rfl, if_pos (by omega)]: why
        refine callG (WriteString_w _ _ way2 j3 true (foldT ff (preT (Cell.mk 6 num text names items)) 0 (items.take k) (out ++ ([91]))) ([44, 32]) i3 hi3 (by have := hfold k; simp only [List.length_cons, List.length_nil]; omega)) [0, 1, 2, 3] rfl ⟨rfl, rfl, rfl, rfl, trivial⟩ rfl fun i6 hi6 => ?_
        ((conv => whnf); (repeat ((first | refine BoxN.own ?_ | refine RwN.own ?_ | refine VrN.norm (wrap_i64 (by omega)) ?_ | refine VrN.keep ?_ | refine Nd.mk (by decide +kernel) ?_ | refine Nd.mk (by omega) ?_ | (refine Nd.mk ?_ ?_; focus ((repeat' (first | exact trivial | exact wkE_refl _ | refine And.intro ?_ ?_)); done)) | refine RdN.intro _ rfl (by rfl) ?_); (conv => whnf))))
        -- an item is written, and the round is over; [44, 32]: what stands ahead of it, i6: the Builder's place, by rw [preT_6 rfl, if_pos (by omega)]: the proof that it stands ahead
        refine callG (ih (by omega) (foldT ff (preT (Cell.mk 6 num text names items)) 0 (items.take k) (out ++ ([91])) ++ ([44, 32])) way2 i6 j3 xn (hi6) hj3 hx1 hnd2 hr2 (by omega) (by have := hfold k; simp only [List.length_append, List.length_cons, List.length_nil]; omega)) [0, 1, 2, 3] rfl ⟨rfl, rfl, rfl, rfl, trivial⟩ rfl fun st hst => ?_
        obtain ⟨i5, j5⟩ := st
        obtain ⟨hi5, hj5⟩ := hst
        simp only at hi5 hj5
        ((conv => whnf); (repeat ((first | refine BoxN.own ?_ | refine RwN.own ?_ | refine VrN.norm (wrap_i64 (by omega)) ?_ | refine VrN.keep ?_ | refine Nd.mk (by decide +kernel) ?_ | refine Nd.mk (by omega) ?_ | (refine Nd.mk ?_ ?_; focus ((repeat' (first | exact trivial | exact wkE_refl _ | refine And.intro ?_ ?_)); done)) | refine RdN.intro _ rfl (by rfl) ?_); (conv => whnf))))
        have hfs := foldT_take (f := ff) (pre := preT (Cell.mk 6 num text names items)) hx (out ++ ([91]))
        rw [show preT (Cell.mk 6 num text names items) k = [44, 32] from by rw [preT_6 rfl, if_pos (by omega)], hfx] at hfs
        refine ⟨(k + 1, i5, j5), ⟨by omega, by rw [hfs]; exact hi5, hj5⟩, by show items.length - (k + 1) < items.length - k; omega, ?_, ?_⟩
        · (repeat' (first | exact trivial | refine And.intro (by with_reducible rfl) ?_ | (with_reducible exact wkC_refl _) | (with_reducible exact wkCs_refl _) | refine And.intro ?_ ?_))
          all_goals first | rfl | exact av_int (by rw [wrap_i64 (by omega)]; omega) | exact av_int (by omega)
        · show wkH _ (wH _ _ true (foldT ff _ 0 (items.take (k + 1)) _) _ _ _ ++ _)
          rw [hfs]
          exact ⟨wkE_refl _, wkE_refl _, wkE_refl _, wkE_refl _, trivial, trivial, trivial, wkE_refl _, trivial⟩
      · ((conv => whnf); (repeat ((first | refine BoxN.own ?_ | refine RwN.own ?_ | refine VrN.norm (wrap_i64 (by omega)) ?_ | refine VrN.keep ?_ | refine Nd.mk (by decide +kernel) ?_ | refine Nd.mk (by omega) ?_ | (refine Nd.mk ?_ ?_; focus ((repeat' (first | exact trivial | exact wkE_refl _ | refine And.intro ?_ ?_)); done)) | refine RdN.intro _ rfl (by rfl) ?_); (conv => whnf))))
        -- 6: the kind, [91]: the front, by rw [preT_6 rfl, if_neg (by omega)]: why
        rw [show foldT ff (preT (Cell.mk 6 num text names items)) 0 (items.take k) (out ++ ([91])) = foldT ff (preT (Cell.mk 6 num text names items)) 0 (items.take k) (out ++ ([91])) ++ [] from (List.append_nil _).symm]
        -- an item is written, and the round is over; []: what stands ahead of it, i3: the Builder's place, by rw [preT_6 rfl, if_neg (by omega)]: the proof that it stands ahead
        refine callG (ih (by omega) (foldT ff (preT (Cell.mk 6 num text names items)) 0 (items.take k) (out ++ ([91])) ++ ([])) way2 i3 j3 xn (by rw [List.append_nil]; exact hi3) hj3 hx1 hnd2 hr2 (by omega) (by have := hfold k; simp only [List.length_append, List.length_cons, List.length_nil]; omega)) [0, 1, 2, 3] rfl ⟨rfl, rfl, rfl, rfl, trivial⟩ rfl fun st hst => ?_
        obtain ⟨i5, j5⟩ := st
        obtain ⟨hi5, hj5⟩ := hst
        simp only at hi5 hj5
        ((conv => whnf); (repeat ((first | refine BoxN.own ?_ | refine RwN.own ?_ | refine VrN.norm (wrap_i64 (by omega)) ?_ | refine VrN.keep ?_ | refine Nd.mk (by decide +kernel) ?_ | refine Nd.mk (by omega) ?_ | (refine Nd.mk ?_ ?_; focus ((repeat' (first | exact trivial | exact wkE_refl _ | refine And.intro ?_ ?_)); done)) | refine RdN.intro _ rfl (by rfl) ?_); (conv => whnf))))
        have hfs := foldT_take (f := ff) (pre := preT (Cell.mk 6 num text names items)) hx (out ++ ([91]))
        rw [show preT (Cell.mk 6 num text names items) k = [] from by rw [preT_6 rfl, if_neg (by omega)], hfx] at hfs
        refine ⟨(k + 1, i5, j5), ⟨by omega, by rw [hfs]; exact hi5, hj5⟩, by show items.length - (k + 1) < items.length - k; omega, ?_, ?_⟩
        · (repeat' (first | exact trivial | refine And.intro (by with_reducible rfl) ?_ | (with_reducible exact wkC_refl _) | (with_reducible exact wkCs_refl _) | refine And.intro ?_ ?_))
          all_goals first | rfl | exact av_int (by rw [wrap_i64 (by omega)]; omega) | exact av_int (by omega)
        · show wkH _ (wH _ _ true (foldT ff _ 0 (items.take (k + 1)) _) _ _ _ ++ _)
          rw [hfs]
          exact ⟨wkE_refl _, wkE_refl _, wkE_refl _, wkE_refl _, trivial, trivial, trivial, wkE_refl _, trivial⟩
    · have hin : k = items.length := by omega
      subst hin
      rw [List.take_length] at hi3 ⊢
      have hfe := hfold items.length
      rw [List.take_length] at hfe
      obtain ⟨wb, wc⟩ := j3
      cases wb with
      | none =>
        have := (hj3.1 rfl).1
        omega
      | some wb =>
      have hwc3 : way2.length ≤ wc := hj3.2.1
      ((conv => whnf); (repeat ((first | refine BoxN.own ?_ | refine RwN.own ?_ | refine VrN.norm (wrap_i64 (by omega)) ?_ | refine VrN.keep ?_ | refine Nd.mk (by decide +kernel) ?_ | refine Nd.mk (by omega) ?_ | (refine Nd.mk ?_ ?_; focus ((repeat' (first | exact trivial | exact wkE_refl _ | refine And.intro ?_ ?_)); done)) | refine RdN.intro _ rfl (by rfl) ?_); (conv => whnf))))
      refine callG (WriteString_w _ _ way2 ⟨some wb, wc⟩ true (foldT ff (preT (Cell.mk 6 num text names items)) 0 items (out ++ ([91]))) ([93]) i3 hi3 (by simp only [List.length_cons, List.length_nil]; omega)) [0, 1, 2, 3] rfl ⟨rfl, rfl, rfl, rfl, trivial⟩ rfl fun i7 hi7 => ?_
      ((conv => whnf); (repeat ((first | refine BoxN.own ?_ | refine RwN.own ?_ | refine VrN.norm (wrap_i64 (by omega)) ?_ | refine VrN.keep ?_ | refine Nd.mk (by decide +kernel) ?_ | refine Nd.mk (by omega) ?_ | (refine Nd.mk ?_ ?_; focus ((repeat' (first | exact trivial | exact wkE_refl _ | refine And.intro ?_ ?_)); done)) | refine RdN.intro _ rfl (by rfl) ?_); (conv => whnf))))
      -- i7: the Builder's place
      refine DrawN.plan [0, 1, 5] [(2, 1), (3, 1), (4, 1), (6, 1), (7, 1), (8, 1), (9, 1), (10, 1), (11, 1), (12, 1), (13, 1)] [(14, 0)] (by decide +kernel) ?_
      ((conv => whnf); (repeat ((first | refine BoxN.own ?_ | refine RwN.own ?_ | refine VrN.norm (wrap_i64 (by omega)) ?_ | refine VrN.keep ?_ | refine Nd.mk (by decide +kernel) ?_ | refine Nd.mk (by omega) ?_ | (refine Nd.mk ?_ ?_; focus ((repeat' (first | exact trivial | exact wkE_refl _ | refine And.intro ?_ ?_)); done)) | refine RdN.intro _ rfl (by rfl) ?_); (conv => whnf))))
      rw [show IntKind.i64.wrap ((way2.length : Int) - 1) = (way.length : Int) by rw [wrap_i64 (by omega)]; omega]
      refine ReadW.slc_hi rfl (by kernel_rfl) rfl rfl (by show (0 : Int) ≤ (way.length : Int) ∧ (way.length : Int) ≤ (wc : Int); omega) ?_
      rw [Int.toNat_natCast]
      ((conv => whnf); (repeat ((first | refine BoxN.own ?_ | refine RwN.own ?_ | refine VrN.norm (wrap_i64 (by omega)) ?_ | refine VrN.keep ?_ | refine Nd.mk (by decide +kernel) ?_ | refine Nd.mk (by omega) ?_ | (refine Nd.mk ?_ ?_; focus ((repeat' (first | exact trivial | exact wkE_refl _ | refine And.intro ?_ ?_)); done)) | refine RdN.intro _ rfl (by rfl) ?_); (conv => whnf))))
      refine ⟨(i7, ⟨some wb, wc⟩), ⟨hi7, (fun h => by cases h), by show way.length ≤ wc; omega, fun h => by have : wc = 0 := h; omega⟩, rfl, ⟨rfl, rfl, rfl, rfl, rfl, trivial⟩, wkE_refl _, .inr (.inr ⟨rfl, rfl, ?_, rfl, by omega, rfl⟩), wkE_refl _, trivial⟩
      rw [hway2, Nat.mul_one]
      simp [iC]
  · -- 7: the kind
    rw [writeS_in hM hat (fun h => absurd (of_decide_eq_true h) (by show ¬ (7 : Int) ≤ 5; decide))]
    -- 7: the kind
    refine ownC hm Tryz.func51 (by kernel_rfl) rfl rfl (fun _ _ => wH_ok _ _ _ _ _ _ _) (fun _ _ => Nat.le_refl _) ?_
    (first | refine wX ?_ | exact wZ)
    refine callG (Len_w _ _ way j false out i) [0, 1, 2, 3] rfl ⟨rfl, rfl, rfl, rfl, trivial⟩ rfl fun _ _ => ?_
    (first | refine wX ?_ | exact wZ)
    refine brd_dec (fun h => absurd h (by omega)) (fun _ => ?_)
    (first | refine wX ?_ | exact wZ)
    refine Nd.mk ⟨hsa, by omega, by omega⟩ ?_
    (first | refine wX ?_ | exact wZ)
    refine LdN.agg [.int .i64 7, .int .i64 num, .string (bs text), .slice na names.length nc, .slice ia items.length ic] rfl (fun w hw => hw.2.2.1.1.1) rfl (fun k hk => by rw [Int.toNat_natCast]; exact grC_get l u k hk hp) ?_
    ((conv => whnf); (repeat ((first | refine BoxN.own ?_ | refine RwN.own ?_ | refine VrN.norm (wrap_i64 (by omega)) ?_ | refine VrN.keep ?_ | refine Nd.mk (by decide +kernel) ?_ | refine Nd.mk (by omega) ?_ | (refine Nd.mk ?_ ?_; focus ((repeat' (first | exact trivial | exact wkE_refl _ | refine And.intro ?_ ?_)); done)) | refine RdN.intro _ rfl (by rfl) ?_); (conv => whnf))))
    refine spec_of_exec hm Tryz.func99 (by kernel_rfl) rfl rfl ?_
    ((conv => whnf); (repeat ((first | refine BoxN.own ?_ | refine RwN.own ?_ | refine VrN.norm (wrap_i64 (by omega)) ?_ | refine VrN.keep ?_ | refine Nd.mk (by decide +kernel) ?_ | refine Nd.mk (by omega) ?_ | (refine Nd.mk ?_ ?_; focus ((repeat' (first | exact trivial | exact wkE_refl _ | refine And.intro ?_ ?_)); done)) | refine RdN.intro _ rfl (by rfl) ?_); (conv => whnf))))
    refine SpecH.args (args' := pvs [.slice (at0 j.ob) way.length j.cap, .int .i64 (u : Int)]) (by simp [pvs, opvs, opv, nth]; try rfl) ?_
    refine call1 (contains_c j.ob j.cap way u (fun h => List.eq_nil_of_length_eq_zero (hj.1 h).1) (by omega) _ (fun w hw => hw.2.1)) ?_
    ((conv => whnf); (repeat ((first | refine BoxN.own ?_ | refine RwN.own ?_ | refine VrN.norm (wrap_i64 (by omega)) ?_ | refine VrN.keep ?_ | refine Nd.mk (by decide +kernel) ?_ | refine Nd.mk (by omega) ?_ | (refine Nd.mk ?_ ?_; focus ((repeat' (first | exact trivial | exact wkE_refl _ | refine And.intro ?_ ?_)); done)) | refine RdN.intro _ rfl (by rfl) ?_); (conv => whnf))))
    try refine Nd.mk ⟨Nat.le_refl 1, rfl, rfl⟩ ?_
    (conv => whnf)
    refine AppN.grow 2 (iC way) [.int .i64 (u : Int)] rfl rfl ⟨Nat.le_refl 1, ⟨by show (way.length + 1) * 8 ≤ _; omega, by omega⟩, Nat.one_ne_zero⟩ fun wb wc hwc _ => ?_
    obtain ⟨way2, hway2⟩ : ∃ w2, w2 = way ++ [(u : Int)] := ⟨_, rfl⟩
    have hcl : iC way ++ [.int .i64 (u : Int)] = iC way2 := by rw [hway2]; simp [iC]
    have hll : way.length + 1 = way2.length := by rw [hway2]; simp
    rw [hcl, hll]
    ((conv => whnf); (repeat ((first | refine BoxN.own ?_ | refine RwN.own ?_ | refine VrN.norm (wrap_i64 (by omega)) ?_ | refine VrN.keep ?_ | refine Nd.mk (by decide +kernel) ?_ | refine Nd.mk (by omega) ?_ | (refine Nd.mk ?_ ?_; focus ((repeat' (first | exact trivial | exact wkE_refl _ | refine And.intro ?_ ?_)); done)) | refine RdN.intro _ rfl (by rfl) ?_); (conv => whnf))))
    -- [123]: what is written, i2: the place behind
    refine callG (WriteString_w _ _ way2 ⟨some wb, wc⟩ false out ([123]) i hi (by first | omega | (simp; omega))) [0, 1, 2, 3] rfl ⟨rfl, rfl, rfl, rfl, trivial⟩ rfl fun i2 hi2 => ?_
    ((conv => whnf); (repeat ((first | refine BoxN.own ?_ | refine RwN.own ?_ | refine VrN.norm (wrap_i64 (by omega)) ?_ | refine VrN.keep ?_ | refine Nd.mk (by decide +kernel) ?_ | refine Nd.mk (by omega) ?_ | (refine Nd.mk ?_ ?_; focus ((repeat' (first | exact trivial | exact wkE_refl _ | refine And.intro ?_ ?_)); done)) | refine RdN.intro _ rfl (by rfl) ?_); (conv => whnf))))
    -- [123]: front, [46, 46, 46]: mark, [125]: back
    cases hun : decide ((u : Int) ∈ way) with
    | true =>
      rw [if_pos (of_decide_eq_true hun)]
      ((conv => whnf); (repeat ((first | refine BoxN.own ?_ | refine RwN.own ?_ | refine VrN.norm (wrap_i64 (by omega)) ?_ | refine VrN.keep ?_ | refine Nd.mk (by decide +kernel) ?_ | refine Nd.mk (by omega) ?_ | (refine Nd.mk ?_ ?_; focus ((repeat' (first | exact trivial | exact wkE_refl _ | refine And.intro ?_ ?_)); done)) | refine RdN.intro _ rfl (by rfl) ?_); (conv => whnf))))
      -- out ++ ([123]): what is there, [46, 46, 46]: what is written, i2: the Builder's place, hi2: its word, i3: the place behind
      refine callG (WriteString_w _ _ way2 ⟨some wb, wc⟩ true (out ++ ([123])) ([46, 46, 46]) i2 hi2 (by first | omega | (simp; omega))) [0, 1, 2, 3] rfl ⟨rfl, rfl, rfl, rfl, trivial⟩ rfl fun i3 hi3 => ?_
      ((conv => whnf); (repeat ((first | refine BoxN.own ?_ | refine RwN.own ?_ | refine VrN.norm (wrap_i64 (by omega)) ?_ | refine VrN.keep ?_ | refine Nd.mk (by decide +kernel) ?_ | refine Nd.mk (by omega) ?_ | (refine Nd.mk ?_ ?_; focus ((repeat' (first | exact trivial | exact wkE_refl _ | refine And.intro ?_ ?_)); done)) | refine RdN.intro _ rfl (by rfl) ?_); (conv => whnf))))
      -- out ++ ([123]) ++ ([46, 46, 46]): what is there, [125]: what is written, i3: the Builder's place, hi3: its word, i4: the place behind
      refine callG (WriteString_w _ _ way2 ⟨some wb, wc⟩ true (out ++ ([123]) ++ ([46, 46, 46])) ([125]) i3 hi3 (by first | omega | (simp; omega))) [0, 1, 2, 3] rfl ⟨rfl, rfl, rfl, rfl, trivial⟩ rfl fun i4 hi4 => ?_
      ((conv => whnf); (repeat ((first | refine BoxN.own ?_ | refine RwN.own ?_ | refine VrN.norm (wrap_i64 (by omega)) ?_ | refine VrN.keep ?_ | refine Nd.mk (by decide +kernel) ?_ | refine Nd.mk (by omega) ?_ | (refine Nd.mk ?_ ?_; focus ((repeat' (first | exact trivial | exact wkE_refl _ | refine And.intro ?_ ?_)); done)) | refine RdN.intro _ rfl (by rfl) ?_); (conv => whnf))))
      -- i4: the Builder's place
      refine DrawN.plan [0, 1, 5] [(2, 1), (3, 1), (4, 1), (6, 1), (7, 1), (8, 1), (9, 1), (10, 1), (11, 1), (12, 1), (13, 1)] [(14, 0)] (by decide +kernel) ?_
      ((conv => whnf); (repeat ((first | refine BoxN.own ?_ | refine RwN.own ?_ | refine VrN.norm (wrap_i64 (by omega)) ?_ | refine VrN.keep ?_ | refine Nd.mk (by decide +kernel) ?_ | refine Nd.mk (by omega) ?_ | (refine Nd.mk ?_ ?_; focus ((repeat' (first | exact trivial | exact wkE_refl _ | refine And.intro ?_ ?_)); done)) | refine RdN.intro _ rfl (by rfl) ?_); (conv => whnf))))
      rw [show IntKind.i64.wrap ((way2.length : Int) - 1) = (way.length : Int) by rw [wrap_i64 (by omega)]; omega]
      refine ReadW.slc_hi rfl (by kernel_rfl) rfl rfl (by show (0 : Int) ≤ (way.length : Int) ∧ (way.length : Int) ≤ (wc : Int); omega) ?_
      rw [Int.toNat_natCast]
      ((conv => whnf); (repeat ((first | refine BoxN.own ?_ | refine RwN.own ?_ | refine VrN.norm (wrap_i64 (by omega)) ?_ | refine VrN.keep ?_ | refine Nd.mk (by decide +kernel) ?_ | refine Nd.mk (by omega) ?_ | (refine Nd.mk ?_ ?_; focus ((repeat' (first | exact trivial | exact wkE_refl _ | refine And.intro ?_ ?_)); done)) | refine RdN.intro _ rfl (by rfl) ?_); (conv => whnf))))
      refine ⟨(i4, ⟨some wb, wc⟩), ⟨hi4, (fun h => by cases h), by show way.length ≤ wc; omega, fun h => by have : wc = 0 := h; omega⟩, rfl, ⟨rfl, rfl, rfl, rfl, rfl, trivial⟩, wkE_refl _, .inr (.inr ⟨rfl, rfl, ?_, rfl, by omega, rfl⟩), wkE_refl _, trivial⟩
      rw [hway2, Nat.mul_one]
      simp [iC]
    | false =>
    rw [if_neg (of_decide_eq_false hun)]
    ((conv => whnf); (repeat ((first | refine BoxN.own ?_ | refine RwN.own ?_ | refine VrN.norm (wrap_i64 (by omega)) ?_ | refine VrN.keep ?_ | refine Nd.mk (by decide +kernel) ?_ | refine Nd.mk (by omega) ?_ | (refine Nd.mk ?_ ?_; focus ((repeat' (first | exact trivial | exact wkE_refl _ | refine And.intro ?_ ?_)); done)) | refine RdN.intro _ rfl (by rfl) ?_); (conv => whnf))))
    -- 7: the kind, [123]: the front
    rw [← hway2]
    have hnd2 : way2.Nodup := by
      rw [hway2]
      exact List.nodup_append.2 ⟨hw, by simp, fun x hx y hy => by
        rw [List.mem_singleton.1 hy]
        intro e
        subst e
        exact of_decide_eq_false hun hx⟩
    have hr2 : ∀ x ∈ way2, 0 ≤ x ∧ x < (l.length : Int) := fun x hx => by
      rw [hway2] at hx
      rcases List.mem_append.1 hx with hx | hx
      · exact hr x hx
      · rw [List.mem_singleton.1 hx]; omega
    obtain ⟨ff, hff⟩ : ∃ ff, ff = fun o k => writeS 20000 (leafS qt it) (l.map (·.c)) m o way2 k := ⟨_, rfl⟩
    rw [← hff]
    have hfx : ∀ o x, ff o x = writeS 20000 (leafS qt it) (l.map (·.c)) m o way2 x := fun o x => by rw [hff]
    have hpre : ∀ i, (preT (Cell.mk 7 num text names items) i).length ≤ 50 := fun i => by
      have := pre_le hsh (u : Int) i
      rw [hat] at this
      exact this
    have hfold : ∀ k, (foldT ff (preT (Cell.mk 7 num text names items)) 0 (items.take k) (out ++ ([123]))).length ≤ 130000000 := fun k => by
      have hfl : (out ++ ([123])).length ≤ out.length + 2002 := by simp; try omega
      have := foldT_len (M := 20000) (f := ff) (pre := preT (Cell.mk 7 num text names items)) (p := 50) (X := 20000 + m * 200000) hpre (by omega) (fun o k ho => by rw [hff]; exact write_same m o _ k ho) (fun o k ho => by rw [hff]; have := write_len (M := 20000) hsh m o way2 k; show (writeS _ _ _ _ _ _ _).length ≤ _; omega) (items.take k) 0 (out ++ ([123])) (22002 + m * 200000) (by omega) (by omega)
      rw [List.length_take] at this
      omega
    refine spec_of_exec hm Tryz.func122 (by kernel_rfl) rfl rfl ?_
    ((conv => whnf); (repeat ((first | refine BoxN.own ?_ | refine RwN.own ?_ | refine VrN.norm (wrap_i64 (by omega)) ?_ | refine VrN.keep ?_ | refine Nd.mk (by decide +kernel) ?_ | refine Nd.mk (by omega) ?_ | (refine Nd.mk ?_ ?_; focus ((repeat' (first | exact trivial | exact wkE_refl _ | refine And.intro ?_ ?_)); done)) | refine RdN.intro _ rfl (by rfl) ?_); (conv => whnf))))
    -- 7: the kind, [123]: the front
    refine LoopN.intro (Nat × BSt × BSt) (fun ⟨k, i, j⟩ => k ≤ items.length ∧ i.ok (foldT ff (preT (Cell.mk 7 num text names items)) 0 (items.take k) (out ++ ([123]))).length ∧ j.ok way2.length) (fun ⟨k, _, _⟩ => mkS Tryz.f122.ntmps 0 [(0, .c (.lp 0 0)), (3, .c (.lp 7 0)), (7, .c (.v (.slice ia items.length ic))), (8, .c (.v (.int .i64 (items.length : Int)))), (9, .c (.v (.int .i64 (k : Int))))])
      (fun ⟨k, i, j⟩ => wH (.slice a l.length ca) (gF a l E) true (foldT ff (preT (Cell.mk 7 num text names items)) 0 (items.take k) (out ++ ([123]))) i way2 j ++ [.dead, .dead, .dead, .blk 42 [.v (.int .i64 7), .v (.int .i64 num), .v (.string (bs text)), .v (.slice na names.length nc), .v (.slice ia items.length ic)]]) (fun ⟨k, _, _⟩ => items.length - k) [] rfl (fun ⟨_, _, _⟩ => rfl) (fun ⟨_, _, _⟩ => rfl) (fun ⟨_, _, _⟩ _ => okHB_eq rfl) ?_ ?_
    · refine ⟨(0, i2, ⟨some wb, wc⟩), ⟨Nat.zero_le _, hi2, (fun h => by cases h), by show way2.length ≤ wc; omega, fun h => by have : wc = 0 := h; omega⟩, ?_, wkE_refl _, wkE_refl _, wkE_refl _, wkE_refl _, trivial, trivial, trivial, wkE_refl _, trivial⟩
      (repeat' (first | exact trivial | refine And.intro (by with_reducible rfl) ?_ | (with_reducible exact wkC_refl _) | (with_reducible exact wkCs_refl _) | refine And.intro ?_ ?_))
      all_goals rfl
    rintro ⟨k, i3, j3⟩ ⟨hk3, hi3, hj3⟩
    ((conv => whnf); (repeat ((first | refine BoxN.own ?_ | refine RwN.own ?_ | refine VrN.norm (wrap_i64 (by omega)) ?_ | refine VrN.keep ?_ | refine Nd.mk (by decide +kernel) ?_ | refine Nd.mk (by omega) ?_ | (refine Nd.mk ?_ ?_; focus ((repeat' (first | exact trivial | exact wkE_refl _ | refine And.intro ?_ ?_)); done)) | refine RdN.intro _ rfl (by rfl) ?_); (conv => whnf))))
    refine brd_dec (fun h1 => ?_) (fun h1 => ?_)
    · obtain ⟨x, hx⟩ : ∃ x, items[k]? = some x := ⟨_, List.getElem?_eq_getElem (by omega)⟩
      have hxin := cellD_in hcd x (List.mem_of_getElem? hx)
      obtain ⟨xn, rfl⟩ : ∃ xn : Nat, x = (xn : Int) := ⟨x.toNat, by omega⟩
      have hx1 : xn < l.length := by omega
      have hsi : ia.isSome = true := by
        have := hpo.ia
        cases ia with
        | none =>
          have h0 : items = [] := this rfl
          rw [h0] at hx
          cases hx
        | some b => rfl
      ((conv => whnf); (repeat ((first | refine BoxN.own ?_ | refine RwN.own ?_ | refine VrN.norm (wrap_i64 (by omega)) ?_ | refine VrN.keep ?_ | refine Nd.mk (by decide +kernel) ?_ | refine Nd.mk (by omega) ?_ | (refine Nd.mk ?_ ?_; focus ((repeat' (first | exact trivial | exact wkE_refl _ | refine And.intro ?_ ?_)); done)) | refine RdN.intro _ rfl (by rfl) ?_); (conv => whnf))))
      refine Nd.mk ⟨hsi, by omega, by omega⟩ ?_
      ((conv => whnf); (repeat ((first | refine BoxN.own ?_ | refine RwN.own ?_ | refine VrN.norm (wrap_i64 (by omega)) ?_ | refine VrN.keep ?_ | refine Nd.mk (by decide +kernel) ?_ | refine Nd.mk (by omega) ?_ | (refine Nd.mk ?_ ?_; focus ((repeat' (first | exact trivial | exact wkE_refl _ | refine And.intro ?_ ?_)); done)) | refine RdN.intro _ rfl (by rfl) ?_); (conv => whnf))))
      refine LdN.one (.int .i64 (xn : Int)) rfl (fun w hw => (hw.2.2.1.1.2 _ hpm).2) (by rw [Int.toNat_natCast]; show (iC items)[k * 1]? = _; rw [Nat.mul_one]; exact iC_get hx) ?_
      ((conv => whnf); (repeat ((first | refine BoxN.own ?_ | refine RwN.own ?_ | refine VrN.norm (wrap_i64 (by omega)) ?_ | refine VrN.keep ?_ | refine Nd.mk (by decide +kernel) ?_ | refine Nd.mk (by omega) ?_ | (refine Nd.mk ?_ ?_; focus ((repeat' (first | exact trivial | exact wkE_refl _ | refine And.intro ?_ ?_)); done)) | refine RdN.intro _ rfl (by rfl) ?_); (conv => whnf))))
      refine brd_eq (fun hk1 => ?_) (fun hk1 => ?_)
      · rw [Int.tmod_eq_emod_of_nonneg (by omega)] at hk1
        ((conv => whnf); (repeat ((first | refine BoxN.own ?_ | refine RwN.own ?_ | refine VrN.norm (wrap_i64 (by omega)) ?_ | refine VrN.keep ?_ | refine Nd.mk (by decide +kernel) ?_ | refine Nd.mk (by omega) ?_ | (refine Nd.mk ?_ ?_; focus ((repeat' (first | exact trivial | exact wkE_refl _ | refine And.intro ?_ ?_)); done)) | refine RdN.intro _ rfl (by rfl) ?_); (conv => whnf))))
        -- 7: the kind, [123]: the front, [32, 61, 62, 32]: what stands ahead, by rw [preT_7 rfl, if_pos (by omega)]: why
        refine callG (WriteString_w _ _ way2 j3 true (foldT ff (preT (Cell.mk 7 num text names items)) 0 (items.take k) (out ++ ([123]))) ([32, 61, 62, 32]) i3 hi3 (by have := hfold k; simp only [List.length_cons, List.length_nil]; omega)) [0, 1, 2, 3] rfl ⟨rfl, rfl, rfl, rfl, trivial⟩ rfl fun i6 hi6 => ?_
        ((conv => whnf); (repeat ((first | refine BoxN.own ?_ | refine RwN.own ?_ | refine VrN.norm (wrap_i64 (by omega)) ?_ | refine VrN.keep ?_ | refine Nd.mk (by decide +kernel) ?_ | refine Nd.mk (by omega) ?_ | (refine Nd.mk ?_ ?_; focus ((repeat' (first | exact trivial | exact wkE_refl _ | refine And.intro ?_ ?_)); done)) | refine RdN.intro _ rfl (by rfl) ?_); (conv => whnf))))
        -- an item is written, and the round is over; [32, 61, 62, 32]: what stands ahead of it, i6: the Builder's place, by rw [preT_7 rfl, if_pos (by omega)]: the proof that it stands ahead
        refine callG (ih (by omega) (foldT ff (preT (Cell.mk 7 num text names items)) 0 (items.take k) (out ++ ([123])) ++ ([32, 61, 62, 32])) way2 i6 j3 xn (hi6) hj3 hx1 hnd2 hr2 (by omega) (by have := hfold k; simp only [List.length_append, List.length_cons, List.length_nil]; omega)) [0, 1, 2, 3] rfl ⟨rfl, rfl, rfl, rfl, trivial⟩ rfl fun st hst => ?_
        obtain ⟨i5, j5⟩ := st
        obtain ⟨hi5, hj5⟩ := hst
        simp only at hi5 hj5
        ((conv => whnf); (repeat ((first | refine BoxN.own ?_ | refine RwN.own ?_ | refine VrN.norm (wrap_i64 (by omega)) ?_ | refine VrN.keep ?_ | refine Nd.mk (by decide +kernel) ?_ | refine Nd.mk (by omega) ?_ | (refine Nd.mk ?_ ?_; focus ((repeat' (first | exact trivial | exact wkE_refl _ | refine And.intro ?_ ?_)); done)) | refine RdN.intro _ rfl (by rfl) ?_); (conv => whnf))))
        have hfs := foldT_take (f := ff) (pre := preT (Cell.mk 7 num text names items)) hx (out ++ ([123]))
        rw [show preT (Cell.mk 7 num text names items) k = [32, 61, 62, 32] from by rw [preT_7 rfl, if_pos (by omega)], hfx] at hfs
        refine ⟨(k + 1, i5, j5), ⟨by omega, by rw [hfs]; exact hi5, hj5⟩, by show items.length - (k + 1) < items.length - k; omega, ?_, ?_⟩
        · (repeat' (first | exact trivial | refine And.intro (by with_reducible rfl) ?_ | (with_reducible exact wkC_refl _) | (with_reducible exact wkCs_refl _) | refine And.intro ?_ ?_))
          all_goals first | rfl | exact av_int (by rw [wrap_i64 (by omega)]; omega) | exact av_int (by omega)
        · show wkH _ (wH _ _ true (foldT ff _ 0 (items.take (k + 1)) _) _ _ _ ++ _)
          rw [hfs]
          exact ⟨wkE_refl _, wkE_refl _, wkE_refl _, wkE_refl _, trivial, trivial, trivial, wkE_refl _, trivial⟩
      rw [Int.tmod_eq_emod_of_nonneg (by omega)] at hk1
      ((conv => whnf); (repeat ((first | refine BoxN.own ?_ | refine RwN.own ?_ | refine VrN.norm (wrap_i64 (by omega)) ?_ | refine VrN.keep ?_ | refine Nd.mk (by decide +kernel) ?_ | refine Nd.mk (by omega) ?_ | (refine Nd.mk ?_ ?_; focus ((repeat' (first | exact trivial | exact wkE_refl _ | refine And.intro ?_ ?_)); done)) | refine RdN.intro _ rfl (by rfl) ?_); (conv => whnf))))
      refine brd_dec (fun hk0 => ?_) (fun hk0 => ?_)
      · ((conv => whnf); (repeat ((first | refine BoxN.own ?_ | refine RwN.own ?_ | refine VrN.norm (wrap_i64 (by omega)) ?_ | refine VrN.keep ?_ | refine Nd.mk (by decide +kernel) ?_ | refine Nd.mk (by omega) ?_ | (refine Nd.mk ?_ ?_; focus ((repeat' (first | exact trivial | exact wkE_refl _ | refine And.intro ?_ ?_)); done)) | refine RdN.intro _ rfl (by rfl) ?_); (conv => whnf))))
        -- 7: the kind, [123]: the front, [44, 32]: what stands ahead, by rw [preT_7 rfl, if_neg (by omega), if_pos (by omega)]: why
        refine callG (WriteString_w _ _ way2 j3 true (foldT ff (preT (Cell.mk 7 num text names items)) 0 (items.take k) (out ++ ([123]))) ([44, 32]) i3 hi3 (by have := hfold k; simp only [List.length_cons, List.length_nil]; omega)) [0, 1, 2, 3] rfl ⟨rfl, rfl, rfl, rfl, trivial⟩ rfl fun i6 hi6 => ?_
        ((conv => whnf); (repeat ((first | refine BoxN.own ?_ | refine RwN.own ?_ | refine VrN.norm (wrap_i64 (by omega)) ?_ | refine VrN.keep ?_ | refine Nd.mk (by decide +kernel) ?_ | refine Nd.mk (by omega) ?_ | (refine Nd.mk ?_ ?_; focus ((repeat' (first | exact trivial | exact wkE_refl _ | refine And.intro ?_ ?_)); done)) | refine RdN.intro _ rfl (by rfl) ?_); (conv => whnf))))
        -- an item is written, and the round is over; [44, 32]: what stands ahead of it, i6: the Builder's place, by rw [preT_7 rfl, if_neg (by omega), if_pos (by omega)]: the proof that it stands ahead
        refine callG (ih (by omega) (foldT ff (preT (Cell.mk 7 num text names items)) 0 (items.take k) (out ++ ([123])) ++ ([44, 32])) way2 i6 j3 xn (hi6) hj3 hx1 hnd2 hr2 (by omega) (by have := hfold k; simp only [List.length_append, List.length_cons, List.length_nil]; omega)) [0, 1, 2, 3] rfl ⟨rfl, rfl, rfl, rfl, trivial⟩ rfl fun st hst => ?_
        obtain ⟨i5, j5⟩ := st
        obtain ⟨hi5, hj5⟩ := hst
        simp only at hi5 hj5
        ((conv => whnf); (repeat ((first | refine BoxN.own ?_ | refine RwN.own ?_ | refine VrN.norm (wrap_i64 (by omega)) ?_ | refine VrN.keep ?_ | refine Nd.mk (by decide +kernel) ?_ | refine Nd.mk (by omega) ?_ | (refine Nd.mk ?_ ?_; focus ((repeat' (first | exact trivial | exact wkE_refl _ | refine And.intro ?_ ?_)); done)) | refine RdN.intro _ rfl (by rfl) ?_); (conv => whnf))))
        have hfs := foldT_take (f := ff) (pre := preT (Cell.mk 7 num text names items)) hx (out ++ ([123]))
        rw [show preT (Cell.mk 7 num text names items) k = [44, 32] from by rw [preT_7 rfl, if_neg (by omega), if_pos (by omega)], hfx] at hfs
        refine ⟨(k + 1, i5, j5), ⟨by omega, by rw [hfs]; exact hi5, hj5⟩, by show items.length - (k + 1) < items.length - k; omega, ?_, ?_⟩
        · (repeat' (first | exact trivial | refine And.intro (by with_reducible rfl) ?_ | (with_reducible exact wkC_refl _) | (with_reducible exact wkCs_refl _) | refine And.intro ?_ ?_))
          all_goals first | rfl | exact av_int (by rw [wrap_i64 (by omega)]; omega) | exact av_int (by omega)
        · show wkH _ (wH _ _ true (foldT ff _ 0 (items.take (k + 1)) _) _ _ _ ++ _)
          rw [hfs]
          exact ⟨wkE_refl _, wkE_refl _, wkE_refl _, wkE_refl _, trivial, trivial, trivial, wkE_refl _, trivial⟩
      · ((conv => whnf); (repeat ((first | refine BoxN.own ?_ | refine RwN.own ?_ | refine VrN.norm (wrap_i64 (by omega)) ?_ | refine VrN.keep ?_ | refine Nd.mk (by decide +kernel) ?_ | refine Nd.mk (by omega) ?_ | (refine Nd.mk ?_ ?_; focus ((repeat' (first | exact trivial | exact wkE_refl _ | refine And.intro ?_ ?_)); done)) | refine RdN.intro _ rfl (by rfl) ?_); (conv => whnf))))
        -- 7: the kind, [123]: the front, by rw [preT_7 rfl, if_neg (by omega), if_neg (by omega)]: why
        rw [show foldT ff (preT (Cell.mk 7 num text names items)) 0 (items.take k) (out ++ ([123])) = foldT ff (preT (Cell.mk 7 num text names items)) 0 (items.take k) (out ++ ([123])) ++ [] from (List.append_nil _).symm]
        -- an item is written, and the round is over; []: what stands ahead of it, i3: the Builder's place, by rw [preT_7 rfl, if_neg (by omega), if_neg (by omega)]: the proof that it stands ahead
        refine callG (ih (by omega) (foldT ff (preT (Cell.mk 7 num text names items)) 0 (items.take k) (out ++ ([123])) ++ ([])) way2 i3 j3 xn (by rw [List.append_nil]; exact hi3) hj3 hx1 hnd2 hr2 (by omega) (by have := hfold k; simp only [List.length_append, List.length_cons, List.length_nil]; omega)) [0, 1, 2, 3] rfl ⟨rfl, rfl, rfl, rfl, trivial⟩ rfl fun st hst => ?_
        obtain ⟨i5, j5⟩ := st
        obtain ⟨hi5, hj5⟩ := hst
        simp only at hi5 hj5
        ((conv => whnf); (repeat ((first | refine BoxN.own ?_ | refine RwN.own ?_ | refine VrN.norm (wrap_i64 (by omega)) ?_ | refine VrN.keep ?_ | refine Nd.mk (by decide +kernel) ?_ | refine Nd.mk (by omega) ?_ | (refine Nd.mk ?_ ?_; focus ((repeat' (first | exact trivial | exact wkE_refl _ | refine And.intro ?_ ?_)); done)) | refine RdN.intro _ rfl (by rfl) ?_); (conv => whnf))))
        have hfs := foldT_take (f := ff) (pre := preT (Cell.mk 7 num text names items)) hx (out ++ ([123]))
        rw [show preT (Cell.mk 7 num text names items) k = [] from by rw [preT_7 rfl, if_neg (by omega), if_neg (by omega)], hfx] at hfs
        refine ⟨(k + 1, i5, j5), ⟨by omega, by rw [hfs]; exact hi5, hj5⟩, by show items.length - (k + 1) < items.length - k; omega, ?_, ?_⟩
        · (repeat' (first | exact trivial | refine And.intro (by with_reducible rfl) ?_ | (with_reducible exact wkC_refl _) | (with_reducible exact wkCs_refl _) | refine And.intro ?_ ?_))
          all_goals first | rfl | exact av_int (by rw [wrap_i64 (by omega)]; omega) | exact av_int (by omega)
        · show wkH _ (wH _ _ true (foldT ff _ 0 (items.take (k + 1)) _) _ _ _ ++ _)
          rw [hfs]
          exact ⟨wkE_refl _, wkE_refl _, wkE_refl _, wkE_refl _, trivial, trivial, trivial, wkE_refl _, trivial⟩
    · have hin : k = items.length := by omega
      subst hin
      rw [List.take_length] at hi3 ⊢
      have hfe := hfold items.length
      rw [List.take_length] at hfe
      obtain ⟨wb, wc⟩ := j3
      cases wb with
      | none =>
        have := (hj3.1 rfl).1
        omega
      | some wb =>
      have hwc3 : way2.length ≤ wc := hj3.2.1
      ((conv => whnf); (repeat ((first | refine BoxN.own ?_ | refine RwN.own ?_ | refine VrN.norm (wrap_i64 (by omega)) ?_ | refine VrN.keep ?_ | refine Nd.mk (by decide +kernel) ?_ | refine Nd.mk (by omega) ?_ | (refine Nd.mk ?_ ?_; focus ((repeat' (first | exact trivial | exact wkE_refl _ | refine And.intro ?_ ?_)); done)) | refine RdN.intro _ rfl (by rfl) ?_); (conv => whnf))))
      refine callG (WriteString_w _ _ way2 ⟨some wb, wc⟩ true (foldT ff (preT (Cell.mk 7 num text names items)) 0 items (out ++ ([123]))) ([125]) i3 hi3 (by simp only [List.length_cons, List.length_nil]; omega)) [0, 1, 2, 3] rfl ⟨rfl, rfl, rfl, rfl, trivial⟩ rfl fun i7 hi7 => ?_
      ((conv => whnf); (repeat ((first | refine BoxN.own ?_ | refine RwN.own ?_ | refine VrN.norm (wrap_i64 (by omega)) ?_ | refine VrN.keep ?_ | refine Nd.mk (by decide +kernel) ?_ | refine Nd.mk (by omega) ?_ | (refine Nd.mk ?_ ?_; focus ((repeat' (first | exact trivial | exact wkE_refl _ | refine And.intro ?_ ?_)); done)) | refine RdN.intro _ rfl (by rfl) ?_); (conv => whnf))))
      -- i7: the Builder's place
      refine DrawN.plan [0, 1, 5] [(2, 1), (3, 1), (4, 1), (6, 1), (7, 1), (8, 1), (9, 1), (10, 1), (11, 1), (12, 1), (13, 1)] [(14, 0)] (by decide +kernel) ?_
      ((conv => whnf); (repeat ((first | refine BoxN.own ?_ | refine RwN.own ?_ | refine VrN.norm (wrap_i64 (by omega)) ?_ | refine VrN.keep ?_ | refine Nd.mk (by decide +kernel) ?_ | refine Nd.mk (by omega) ?_ | (refine Nd.mk ?_ ?_; focus ((repeat' (first | exact trivial | exact wkE_refl _ | refine And.intro ?_ ?_)); done)) | refine RdN.intro _ rfl (by rfl) ?_); (conv => whnf))))
      rw [show IntKind.i64.wrap ((way2.length : Int) - 1) = (way.length : Int) by rw [wrap_i64 (by omega)]; omega]
      refine ReadW.slc_hi rfl (by kernel_rfl) rfl rfl (by show (0 : Int) ≤ (way.length : Int) ∧ (way.length : Int) ≤ (wc : Int); omega) ?_
      rw [Int.toNat_natCast]
      ((conv => whnf); (repeat ((first | refine BoxN.own ?_ | refine RwN.own ?_ | refine VrN.norm (wrap_i64 (by omega)) ?_ | refine VrN.keep ?_ | refine Nd.mk (by decide +kernel) ?_ | refine Nd.mk (by omega) ?_ | (refine Nd.mk ?_ ?_; focus ((repeat' (first | exact trivial | exact wkE_refl _ | refine And.intro ?_ ?_)); done)) | refine RdN.intro _ rfl (by rfl) ?_); (conv => whnf))))
      refine ⟨(i7, ⟨some wb, wc⟩), ⟨hi7, (fun h => by cases h), by show way.length ≤ wc; omega, fun h => by have : wc = 0 := h; omega⟩, rfl, ⟨rfl, rfl, rfl, rfl, rfl, trivial⟩, wkE_refl _, .inr (.inr ⟨rfl, rfl, ?_, rfl, by omega, rfl⟩), wkE_refl _, trivial⟩
      rw [hway2, Nat.mul_one]
      simp [iC]
  · rw [writeS_in hM hat (fun h => absurd (of_decide_eq_true h) (by show ¬ (8 : Int) ≤ 5; decide))]
    -- 8: the kind
    refine ownC hm Tryz.func51 (by kernel_rfl) rfl rfl (fun _ _ => wH_ok _ _ _ _ _ _ _) (fun _ _ => Nat.le_refl _) ?_
    (first | refine wX ?_ | exact wZ)
    refine callG (Len_w _ _ way j false out i) [0, 1, 2, 3] rfl ⟨rfl, rfl, rfl, rfl, trivial⟩ rfl fun _ _ => ?_
    (first | refine wX ?_ | exact wZ)
    refine brd_dec (fun h => absurd h (by omega)) (fun _ => ?_)
    (first | refine wX ?_ | exact wZ)
    refine Nd.mk ⟨hsa, by omega, by omega⟩ ?_
    (first | refine wX ?_ | exact wZ)
    refine LdN.agg [.int .i64 8, .int .i64 num, .string (bs text), .slice na names.length nc, .slice ia items.length ic] rfl (fun w hw => hw.2.2.1.1.1) rfl (fun k hk => by rw [Int.toNat_natCast]; exact grC_get l u k hk hp) ?_
    ((conv => whnf); (repeat ((first | refine BoxN.own ?_ | refine RwN.own ?_ | refine VrN.norm (wrap_i64 (by omega)) ?_ | refine VrN.keep ?_ | refine Nd.mk (by decide +kernel) ?_ | refine Nd.mk (by omega) ?_ | (refine Nd.mk ?_ ?_; focus ((repeat' (first | exact trivial | exact wkE_refl _ | refine And.intro ?_ ?_)); done)) | refine RdN.intro _ rfl (by rfl) ?_); (conv => whnf))))
    refine spec_of_exec hm Tryz.func99 (by kernel_rfl) rfl rfl ?_
    ((conv => whnf); (repeat ((first | refine LdN.one (a := some ⟨cb, 0, none⟩) (q := 0) (xs := [_, _, _, _, _]) _ rfl (fun w hw => hw.2.2.2.1) rfl ?_ | refine LdN.one (a := some ⟨cb, 0, none⟩) (q := 1) (xs := [_, _, _, _, _]) _ rfl (fun w hw => hw.2.2.2.1) rfl ?_ | refine LdN.one (a := some ⟨cb, 0, none⟩) (q := 2) (xs := [_, _, _, _, _]) _ rfl (fun w hw => hw.2.2.2.1) rfl ?_ | refine LdN.one (a := some ⟨cb, 0, none⟩) (q := 3) (xs := [_, _, _, _, _]) _ rfl (fun w hw => hw.2.2.2.1) rfl ?_ | refine LdN.one (a := some ⟨cb, 0, none⟩) (q := 4) (xs := [_, _, _, _, _]) _ rfl (fun w hw => hw.2.2.2.1) rfl ?_ | refine RwN.own ?_ | refine VrN.norm (wrap_i64 (by omega)) ?_ | refine VrN.keep ?_ | refine Nd.mk (by decide +kernel) ?_ | refine Nd.mk (by omega) ?_ | (refine Nd.mk ?_ ?_; focus ((repeat' (first | exact trivial | exact wkE_refl _ | refine And.intro ?_ ?_)); done)) | refine RdN.intro _ rfl (by rfl) ?_); (conv => whnf))))
    refine BoxN.known [.int .i64 8, .int .i64 num, .string (bs text), .slice na names.length nc, .slice ia items.length ic] rfl fun cb => ?_
    ((conv => whnf); (repeat ((first | refine LdN.one (a := some ⟨cb, 0, none⟩) (q := 0) (xs := [_, _, _, _, _]) _ rfl (fun w hw => hw.2.2.2.1) rfl ?_ | refine LdN.one (a := some ⟨cb, 0, none⟩) (q := 1) (xs := [_, _, _, _, _]) _ rfl (fun w hw => hw.2.2.2.1) rfl ?_ | refine LdN.one (a := some ⟨cb, 0, none⟩) (q := 2) (xs := [_, _, _, _, _]) _ rfl (fun w hw => hw.2.2.2.1) rfl ?_ | refine LdN.one (a := some ⟨cb, 0, none⟩) (q := 3) (xs := [_, _, _, _, _]) _ rfl (fun w hw => hw.2.2.2.1) rfl ?_ | refine LdN.one (a := some ⟨cb, 0, none⟩) (q := 4) (xs := [_, _, _, _, _]) _ rfl (fun w hw => hw.2.2.2.1) rfl ?_ | refine RwN.own ?_ | refine VrN.norm (wrap_i64 (by omega)) ?_ | refine VrN.keep ?_ | refine Nd.mk (by decide +kernel) ?_ | refine Nd.mk (by omega) ?_ | (refine Nd.mk ?_ ?_; focus ((repeat' (first | exact trivial | exact wkE_refl _ | refine And.intro ?_ ?_)); done)) | refine RdN.intro _ rfl (by rfl) ?_); (conv => whnf))))
    refine SpecH.args (args' := pvs [.slice (at0 j.ob) way.length j.cap, .int .i64 (u : Int)]) (by simp [pvs, opvs, opv, nth]; try rfl) ?_
    refine call1 (contains_c j.ob j.cap way u (fun h => List.eq_nil_of_length_eq_zero (hj.1 h).1) (by omega) _ (fun w hw => hw.2.1)) ?_
    ((conv => whnf); (repeat ((first | refine LdN.one (a := some ⟨cb, 0, none⟩) (q := 0) (xs := [_, _, _, _, _]) _ rfl (fun w hw => hw.2.2.2.1) rfl ?_ | refine LdN.one (a := some ⟨cb, 0, none⟩) (q := 1) (xs := [_, _, _, _, _]) _ rfl (fun w hw => hw.2.2.2.1) rfl ?_ | refine LdN.one (a := some ⟨cb, 0, none⟩) (q := 2) (xs := [_, _, _, _, _]) _ rfl (fun w hw => hw.2.2.2.1) rfl ?_ | refine LdN.one (a := some ⟨cb, 0, none⟩) (q := 3) (xs := [_, _, _, _, _]) _ rfl (fun w hw => hw.2.2.2.1) rfl ?_ | refine LdN.one (a := some ⟨cb, 0, none⟩) (q := 4) (xs := [_, _, _, _, _]) _ rfl (fun w hw => hw.2.2.2.1) rfl ?_ | refine RwN.own ?_ | refine VrN.norm (wrap_i64 (by omega)) ?_ | refine VrN.keep ?_ | refine Nd.mk (by decide +kernel) ?_ | refine Nd.mk (by omega) ?_ | (refine Nd.mk ?_ ?_; focus ((repeat' (first | exact trivial | exact wkE_refl _ | refine And.intro ?_ ?_)); done)) | refine RdN.intro _ rfl (by rfl) ?_); (conv => whnf))))
    try refine Nd.mk ⟨Nat.le_refl 1, rfl, rfl⟩ ?_
    (conv => whnf)
    refine AppN.grow 2 (iC way) [.int .i64 (u : Int)] rfl rfl ⟨Nat.le_refl 1, ⟨by show (way.length + 1) * 8 ≤ _; omega, by omega⟩, Nat.one_ne_zero⟩ fun wb wc hwc _ => ?_
    obtain ⟨way2, hway2⟩ : ∃ w2, w2 = way ++ [(u : Int)] := ⟨_, rfl⟩
    have hcl : iC way ++ [.int .i64 (u : Int)] = iC way2 := by rw [hway2]; simp [iC]
    have hll : way.length + 1 = way2.length := by rw [hway2]; simp
    rw [hcl, hll]
    ((conv => whnf); (repeat ((first | refine LdN.one (a := some ⟨cb, 0, none⟩) (q := 0) (xs := [_, _, _, _, _]) _ rfl (fun w hw => hw.2.2.2.1) rfl ?_ | refine LdN.one (a := some ⟨cb, 0, none⟩) (q := 1) (xs := [_, _, _, _, _]) _ rfl (fun w hw => hw.2.2.2.1) rfl ?_ | refine LdN.one (a := some ⟨cb, 0, none⟩) (q := 2) (xs := [_, _, _, _, _]) _ rfl (fun w hw => hw.2.2.2.1) rfl ?_ | refine LdN.one (a := some ⟨cb, 0, none⟩) (q := 3) (xs := [_, _, _, _, _]) _ rfl (fun w hw => hw.2.2.2.1) rfl ?_ | refine LdN.one (a := some ⟨cb, 0, none⟩) (q := 4) (xs := [_, _, _, _, _]) _ rfl (fun w hw => hw.2.2.2.1) rfl ?_ | refine RwN.own ?_ | refine VrN.norm (wrap_i64 (by omega)) ?_ | refine VrN.keep ?_ | refine Nd.mk (by decide +kernel) ?_ | refine Nd.mk (by omega) ?_ | (refine Nd.mk ?_ ?_; focus ((repeat' (first | exact trivial | exact wkE_refl _ | refine And.intro ?_ ?_)); done)) | refine RdN.intro _ rfl (by rfl) ?_); (conv => whnf))))
    refine Nd.mk (by show 2 + (bs text).size < _; rw [bs_size]; omega) ?_
    rw [show (({ data := #[35, 60] } : ByteArray) ++ bs text) = bs ([35, 60] ++ text) by rw [← bs_app]; rfl]
    ((conv => whnf); (repeat ((first | refine LdN.one (a := some ⟨cb, 0, none⟩) (q := 0) (xs := [_, _, _, _, _]) _ rfl (fun w hw => hw.2.2.2.1) rfl ?_ | refine LdN.one (a := some ⟨cb, 0, none⟩) (q := 1) (xs := [_, _, _, _, _]) _ rfl (fun w hw => hw.2.2.2.1) rfl ?_ | refine LdN.one (a := some ⟨cb, 0, none⟩) (q := 2) (xs := [_, _, _, _, _]) _ rfl (fun w hw => hw.2.2.2.1) rfl ?_ | refine LdN.one (a := some ⟨cb, 0, none⟩) (q := 3) (xs := [_, _, _, _, _]) _ rfl (fun w hw => hw.2.2.2.1) rfl ?_ | refine LdN.one (a := some ⟨cb, 0, none⟩) (q := 4) (xs := [_, _, _, _, _]) _ rfl (fun w hw => hw.2.2.2.1) rfl ?_ | refine RwN.own ?_ | refine VrN.norm (wrap_i64 (by omega)) ?_ | refine VrN.keep ?_ | refine Nd.mk (by decide +kernel) ?_ | refine Nd.mk (by omega) ?_ | (refine Nd.mk ?_ ?_; focus ((repeat' (first | exact trivial | exact wkE_refl _ | refine And.intro ?_ ?_)); done)) | refine RdN.intro _ rfl (by rfl) ?_); (conv => whnf))))
    -- [35, 60] ++ text: what is written, i2: the place behind
    refine callG (WriteString_w _ _ way2 ⟨some wb, wc⟩ false out ([35, 60] ++ text) i hi (by first | omega | (simp; omega))) [0, 1, 2, 3] rfl ⟨rfl, rfl, rfl, rfl, trivial⟩ rfl fun i2 hi2 => ?_
    ((conv => whnf); (repeat ((first | refine LdN.one (a := some ⟨cb, 0, none⟩) (q := 0) (xs := [_, _, _, _, _]) _ rfl (fun w hw => hw.2.2.2.1) rfl ?_ | refine LdN.one (a := some ⟨cb, 0, none⟩) (q := 1) (xs := [_, _, _, _, _]) _ rfl (fun w hw => hw.2.2.2.1) rfl ?_ | refine LdN.one (a := some ⟨cb, 0, none⟩) (q := 2) (xs := [_, _, _, _, _]) _ rfl (fun w hw => hw.2.2.2.1) rfl ?_ | refine LdN.one (a := some ⟨cb, 0, none⟩) (q := 3) (xs := [_, _, _, _, _]) _ rfl (fun w hw => hw.2.2.2.1) rfl ?_ | refine LdN.one (a := some ⟨cb, 0, none⟩) (q := 4) (xs := [_, _, _, _, _]) _ rfl (fun w hw => hw.2.2.2.1) rfl ?_ | refine RwN.own ?_ | refine VrN.norm (wrap_i64 (by omega)) ?_ | refine VrN.keep ?_ | refine Nd.mk (by decide +kernel) ?_ | refine Nd.mk (by omega) ?_ | (refine Nd.mk ?_ ?_; focus ((repeat' (first | exact trivial | exact wkE_refl _ | refine And.intro ?_ ?_)); done)) | refine RdN.intro _ rfl (by rfl) ?_); (conv => whnf))))
    cases hun : decide ((u : Int) ∈ way) with
    | true =>
      rw [if_pos (of_decide_eq_true hun)]
      ((conv => whnf); (repeat ((first | refine LdN.one (a := some ⟨cb, 0, none⟩) (q := 0) (xs := [_, _, _, _, _]) _ rfl (fun w hw => hw.2.2.2.1) rfl ?_ | refine LdN.one (a := some ⟨cb, 0, none⟩) (q := 1) (xs := [_, _, _, _, _]) _ rfl (fun w hw => hw.2.2.2.1) rfl ?_ | refine LdN.one (a := some ⟨cb, 0, none⟩) (q := 2) (xs := [_, _, _, _, _]) _ rfl (fun w hw => hw.2.2.2.1) rfl ?_ | refine LdN.one (a := some ⟨cb, 0, none⟩) (q := 3) (xs := [_, _, _, _, _]) _ rfl (fun w hw => hw.2.2.2.1) rfl ?_ | refine LdN.one (a := some ⟨cb, 0, none⟩) (q := 4) (xs := [_, _, _, _, _]) _ rfl (fun w hw => hw.2.2.2.1) rfl ?_ | refine RwN.own ?_ | refine VrN.norm (wrap_i64 (by omega)) ?_ | refine VrN.keep ?_ | refine Nd.mk (by decide +kernel) ?_ | refine Nd.mk (by omega) ?_ | (refine Nd.mk ?_ ?_; focus ((repeat' (first | exact trivial | exact wkE_refl _ | refine And.intro ?_ ?_)); done)) | refine RdN.intro _ rfl (by rfl) ?_); (conv => whnf))))
      -- out ++ ([35, 60] ++ text): what is there, [32, 46, 46, 46]: what is written, i2: the Builder's place, hi2: its word, i3: the place behind
      refine callG (WriteString_w _ _ way2 ⟨some wb, wc⟩ true (out ++ ([35, 60] ++ text)) ([32, 46, 46, 46]) i2 hi2 (by first | omega | (simp; omega))) [0, 1, 2, 3] rfl ⟨rfl, rfl, rfl, rfl, trivial⟩ rfl fun i3 hi3 => ?_
      ((conv => whnf); (repeat ((first | refine LdN.one (a := some ⟨cb, 0, none⟩) (q := 0) (xs := [_, _, _, _, _]) _ rfl (fun w hw => hw.2.2.2.1) rfl ?_ | refine LdN.one (a := some ⟨cb, 0, none⟩) (q := 1) (xs := [_, _, _, _, _]) _ rfl (fun w hw => hw.2.2.2.1) rfl ?_ | refine LdN.one (a := some ⟨cb, 0, none⟩) (q := 2) (xs := [_, _, _, _, _]) _ rfl (fun w hw => hw.2.2.2.1) rfl ?_ | refine LdN.one (a := some ⟨cb, 0, none⟩) (q := 3) (xs := [_, _, _, _, _]) _ rfl (fun w hw => hw.2.2.2.1) rfl ?_ | refine LdN.one (a := some ⟨cb, 0, none⟩) (q := 4) (xs := [_, _, _, _, _]) _ rfl (fun w hw => hw.2.2.2.1) rfl ?_ | refine RwN.own ?_ | refine VrN.norm (wrap_i64 (by omega)) ?_ | refine VrN.keep ?_ | refine Nd.mk (by decide +kernel) ?_ | refine Nd.mk (by omega) ?_ | (refine Nd.mk ?_ ?_; focus ((repeat' (first | exact trivial | exact wkE_refl _ | refine And.intro ?_ ?_)); done)) | refine RdN.intro _ rfl (by rfl) ?_); (conv => whnf))))
      -- out ++ ([35, 60] ++ text) ++ [32, 46, 46, 46]: what is there, [62]: what is written, i3: the Builder's place, hi3: its word, i4: the place behind
      refine callG (WriteString_w _ _ way2 ⟨some wb, wc⟩ true (out ++ ([35, 60] ++ text) ++ [32, 46, 46, 46]) ([62]) i3 hi3 (by first | omega | (simp; omega))) [0, 1, 2, 3] rfl ⟨rfl, rfl, rfl, rfl, trivial⟩ rfl fun i4 hi4 => ?_
      ((conv => whnf); (repeat ((first | refine LdN.one (a := some ⟨cb, 0, none⟩) (q := 0) (xs := [_, _, _, _, _]) _ rfl (fun w hw => hw.2.2.2.1) rfl ?_ | refine LdN.one (a := some ⟨cb, 0, none⟩) (q := 1) (xs := [_, _, _, _, _]) _ rfl (fun w hw => hw.2.2.2.1) rfl ?_ | refine LdN.one (a := some ⟨cb, 0, none⟩) (q := 2) (xs := [_, _, _, _, _]) _ rfl (fun w hw => hw.2.2.2.1) rfl ?_ | refine LdN.one (a := some ⟨cb, 0, none⟩) (q := 3) (xs := [_, _, _, _, _]) _ rfl (fun w hw => hw.2.2.2.1) rfl ?_ | refine LdN.one (a := some ⟨cb, 0, none⟩) (q := 4) (xs := [_, _, _, _, _]) _ rfl (fun w hw => hw.2.2.2.1) rfl ?_ | refine RwN.own ?_ | refine VrN.norm (wrap_i64 (by omega)) ?_ | refine VrN.keep ?_ | refine Nd.mk (by decide +kernel) ?_ | refine Nd.mk (by omega) ?_ | (refine Nd.mk ?_ ?_; focus ((repeat' (first | exact trivial | exact wkE_refl _ | refine And.intro ?_ ?_)); done)) | refine RdN.intro _ rfl (by rfl) ?_); (conv => whnf))))
      -- i4: the Builder's place
      refine DrawN.plan [0, 1, 5] [(2, 1), (3, 1), (4, 1), (6, 1), (7, 1), (8, 1), (9, 1), (10, 1), (11, 1), (12, 1), (13, 1)] [(14, 0)] (by decide +kernel) ?_
      ((conv => whnf); (repeat ((first | refine BoxN.own ?_ | refine RwN.own ?_ | refine VrN.norm (wrap_i64 (by omega)) ?_ | refine VrN.keep ?_ | refine Nd.mk (by decide +kernel) ?_ | refine Nd.mk (by omega) ?_ | (refine Nd.mk ?_ ?_; focus ((repeat' (first | exact trivial | exact wkE_refl _ | refine And.intro ?_ ?_)); done)) | refine RdN.intro _ rfl (by rfl) ?_); (conv => whnf))))
      rw [show IntKind.i64.wrap ((way2.length : Int) - 1) = (way.length : Int) by rw [wrap_i64 (by omega)]; omega]
      refine ReadW.slc_hi rfl (by kernel_rfl) rfl rfl (by show (0 : Int) ≤ (way.length : Int) ∧ (way.length : Int) ≤ (wc : Int); omega) ?_
      rw [Int.toNat_natCast]
      ((conv => whnf); (repeat ((first | refine BoxN.own ?_ | refine RwN.own ?_ | refine VrN.norm (wrap_i64 (by omega)) ?_ | refine VrN.keep ?_ | refine Nd.mk (by decide +kernel) ?_ | refine Nd.mk (by omega) ?_ | (refine Nd.mk ?_ ?_; focus ((repeat' (first | exact trivial | exact wkE_refl _ | refine And.intro ?_ ?_)); done)) | refine RdN.intro _ rfl (by rfl) ?_); (conv => whnf))))
      refine ⟨(i4, ⟨some wb, wc⟩), ⟨hi4, (fun h => by cases h), by show way.length ≤ wc; omega, fun h => by have : wc = 0 := h; omega⟩, rfl, ⟨rfl, rfl, rfl, rfl, rfl, trivial⟩, wkE_refl _, .inr (.inr ⟨rfl, rfl, ?_, rfl, by omega, rfl⟩), wkE_refl _, trivial⟩
      rw [hway2, Nat.mul_one]
      simp [iC]
    | false =>
    rw [if_neg (of_decide_eq_false hun)]
    ((conv => whnf); (repeat ((first | refine LdN.one (a := some ⟨cb, 0, none⟩) (q := 0) (xs := [_, _, _, _, _]) _ rfl (fun w hw => hw.2.2.2.1) rfl ?_ | refine LdN.one (a := some ⟨cb, 0, none⟩) (q := 1) (xs := [_, _, _, _, _]) _ rfl (fun w hw => hw.2.2.2.1) rfl ?_ | refine LdN.one (a := some ⟨cb, 0, none⟩) (q := 2) (xs := [_, _, _, _, _]) _ rfl (fun w hw => hw.2.2.2.1) rfl ?_ | refine LdN.one (a := some ⟨cb, 0, none⟩) (q := 3) (xs := [_, _, _, _, _]) _ rfl (fun w hw => hw.2.2.2.1) rfl ?_ | refine LdN.one (a := some ⟨cb, 0, none⟩) (q := 4) (xs := [_, _, _, _, _]) _ rfl (fun w hw => hw.2.2.2.1) rfl ?_ | refine RwN.own ?_ | refine VrN.norm (wrap_i64 (by omega)) ?_ | refine VrN.keep ?_ | refine Nd.mk (by decide +kernel) ?_ | refine Nd.mk (by omega) ?_ | (refine Nd.mk ?_ ?_; focus ((repeat' (first | exact trivial | exact wkE_refl _ | refine And.intro ?_ ?_)); done)) | refine RdN.intro _ rfl (by rfl) ?_); (conv => whnf))))
    -- 8: the kind, [35, 60] ++ text: the front
    rw [← hway2]
    have hnd2 : way2.Nodup := by
      rw [hway2]
      exact List.nodup_append.2 ⟨hw, by simp, fun x hx y hy => by
        rw [List.mem_singleton.1 hy]
        intro e
        subst e
        exact of_decide_eq_false hun hx⟩
    have hr2 : ∀ x ∈ way2, 0 ≤ x ∧ x < (l.length : Int) := fun x hx => by
      rw [hway2] at hx
      rcases List.mem_append.1 hx with hx | hx
      · exact hr x hx
      · rw [List.mem_singleton.1 hx]; omega
    obtain ⟨ff, hff⟩ : ∃ ff, ff = fun o k => writeS 20000 (leafS qt it) (l.map (·.c)) m o way2 k := ⟨_, rfl⟩
    rw [← hff]
    have hfx : ∀ o x, ff o x = writeS 20000 (leafS qt it) (l.map (·.c)) m o way2 x := fun o x => by rw [hff]
    have hpre : ∀ i, (preT (Cell.mk 8 num text names items) i).length ≤ 50 := fun i => by
      have := pre_le hsh (u : Int) i
      rw [hat] at this
      exact this
    have hfold : ∀ k, (foldT ff (preT (Cell.mk 8 num text names items)) 0 (items.take k) (out ++ ([35, 60] ++ text))).length ≤ 130000000 := fun k => by
      have hfl : (out ++ ([35, 60] ++ text)).length ≤ out.length + 2002 := by simp; try omega
      have := foldT_len (M := 20000) (f := ff) (pre := preT (Cell.mk 8 num text names items)) (p := 50) (X := 20000 + m * 200000) hpre (by omega) (fun o k ho => by rw [hff]; exact write_same m o _ k ho) (fun o k ho => by rw [hff]; have := write_len (M := 20000) hsh m o way2 k; show (writeS _ _ _ _ _ _ _).length ≤ _; omega) (items.take k) 0 (out ++ ([35, 60] ++ text)) (22002 + m * 200000) (by omega) (by omega)
      rw [List.length_take] at this
      omega
    refine LoopN.intro (Nat × BSt × BSt) (fun ⟨k, i, j⟩ => k ≤ items.length ∧ i.ok (foldT ff (preT (Cell.mk 8 num text names items)) 0 (items.take k) (out ++ ([35, 60] ++ text))).length ∧ j.ok way2.length) (fun ⟨k, _, _⟩ => mkS Tryz.f99.ntmps 0 [(0, .c (.lp 0 0)), (5, .c (.v (.pointer (some ⟨cb, 0, none⟩)))), (8, .c (.v (.string (bs [62])))), (57, .c (.v (.slice ia items.length ic))), (58, .c (.v (.int .i64 (items.length : Int)))), (59, .c (.v (.int .i64 (k : Int))))])
      (fun ⟨k, i, j⟩ => wH (.slice a l.length ca) (gF a l E) true (foldT ff (preT (Cell.mk 8 num text names items)) 0 (items.take k) (out ++ ([35, 60] ++ text))) i way2 j ++ [.dead, .app 42 5 [.int .i64 8, .int .i64 num, .string (bs text), .slice na names.length nc, .slice ia items.length ic] (some ⟨cb, 0, none⟩) 1 1, .dead]) (fun ⟨k, _, _⟩ => items.length - k) [] rfl (fun ⟨_, _, _⟩ => rfl) (fun ⟨_, _, _⟩ => rfl) (fun ⟨_, _, _⟩ _ => okHB_eq rfl) ?_ ?_
    · refine ⟨(0, i2, ⟨some wb, wc⟩), ⟨Nat.zero_le _, hi2, (fun h => by cases h), by show way2.length ≤ wc; omega, fun h => by have : wc = 0 := h; omega⟩, ?_, wkE_refl _, wkE_refl _, wkE_refl _, wkE_refl _, trivial, wkE_refl _, trivial, trivial⟩
      (repeat' (first | exact trivial | refine And.intro (by with_reducible rfl) ?_ | (with_reducible exact wkC_refl _) | (with_reducible exact wkCs_refl _) | refine And.intro ?_ ?_))
      all_goals rfl
    rintro ⟨k, i3, j3⟩ ⟨hk3, hi3, hj3⟩
    ((conv => whnf); (repeat ((first | refine LdN.one (a := some ⟨cb, 0, none⟩) (q := 0) (xs := [_, _, _, _, _]) _ rfl (fun w hw => hw.2.2.2.1) rfl ?_ | refine LdN.one (a := some ⟨cb, 0, none⟩) (q := 1) (xs := [_, _, _, _, _]) _ rfl (fun w hw => hw.2.2.2.1) rfl ?_ | refine LdN.one (a := some ⟨cb, 0, none⟩) (q := 2) (xs := [_, _, _, _, _]) _ rfl (fun w hw => hw.2.2.2.1) rfl ?_ | refine LdN.one (a := some ⟨cb, 0, none⟩) (q := 3) (xs := [_, _, _, _, _]) _ rfl (fun w hw => hw.2.2.2.1) rfl ?_ | refine LdN.one (a := some ⟨cb, 0, none⟩) (q := 4) (xs := [_, _, _, _, _]) _ rfl (fun w hw => hw.2.2.2.1) rfl ?_ | refine RwN.own ?_ | refine VrN.norm (wrap_i64 (by omega)) ?_ | refine VrN.keep ?_ | refine Nd.mk (by decide +kernel) ?_ | refine Nd.mk (by omega) ?_ | (refine Nd.mk ?_ ?_; focus ((repeat' (first | exact trivial | exact wkE_refl _ | refine And.intro ?_ ?_)); done)) | refine RdN.intro _ rfl (by rfl) ?_); (conv => whnf))))
    refine brd_dec (fun h1 => ?_) (fun h1 => ?_)
    · obtain ⟨x, hx⟩ : ∃ x, items[k]? = some x := ⟨_, List.getElem?_eq_getElem (by omega)⟩
      have hxin := cellD_in hcd x (List.mem_of_getElem? hx)
      obtain ⟨xn, rfl⟩ : ∃ xn : Nat, x = (xn : Int) := ⟨x.toNat, by omega⟩
      have hx1 : xn < l.length := by omega
      have hsi : ia.isSome = true := by
        have := hpo.ia
        cases ia with
        | none =>
          have h0 : items = [] := this rfl
          rw [h0] at hx
          cases hx
        | some b => rfl
      have hln : names.length = items.length := cellD_lens hcd rfl
      obtain ⟨nm, hnm⟩ : ∃ nm, names[k]? = some nm := ⟨_, List.getElem?_eq_getElem (by omega)⟩
      have hnl40 : nm.length ≤ 40 := cellD_names hcd nm (List.mem_of_getElem? hnm)
      have hsn : na.isSome = true := by
        have := hpo.na
        cases na with
        | none =>
          have h0 : names = [] := this rfl
          rw [h0] at hnm
          cases hnm
        | some b => rfl
      ((conv => whnf); (repeat ((first | refine LdN.one (a := some ⟨cb, 0, none⟩) (q := 0) (xs := [_, _, _, _, _]) _ rfl (fun w hw => hw.2.2.2.1) rfl ?_ | refine LdN.one (a := some ⟨cb, 0, none⟩) (q := 1) (xs := [_, _, _, _, _]) _ rfl (fun w hw => hw.2.2.2.1) rfl ?_ | refine LdN.one (a := some ⟨cb, 0, none⟩) (q := 2) (xs := [_, _, _, _, _]) _ rfl (fun w hw => hw.2.2.2.1) rfl ?_ | refine LdN.one (a := some ⟨cb, 0, none⟩) (q := 3) (xs := [_, _, _, _, _]) _ rfl (fun w hw => hw.2.2.2.1) rfl ?_ | refine LdN.one (a := some ⟨cb, 0, none⟩) (q := 4) (xs := [_, _, _, _, _]) _ rfl (fun w hw => hw.2.2.2.1) rfl ?_ | refine RwN.own ?_ | refine VrN.norm (wrap_i64 (by omega)) ?_ | refine VrN.keep ?_ | refine Nd.mk (by decide +kernel) ?_ | refine Nd.mk (by omega) ?_ | (refine Nd.mk ?_ ?_; focus ((repeat' (first | exact trivial | exact wkE_refl _ | refine And.intro ?_ ?_)); done)) | refine RdN.intro _ rfl (by rfl) ?_); (conv => whnf))))
      refine Nd.mk ⟨hsi, by omega, by omega⟩ ?_
      ((conv => whnf); (repeat ((first | refine LdN.one (a := some ⟨cb, 0, none⟩) (q := 0) (xs := [_, _, _, _, _]) _ rfl (fun w hw => hw.2.2.2.1) rfl ?_ | refine LdN.one (a := some ⟨cb, 0, none⟩) (q := 1) (xs := [_, _, _, _, _]) _ rfl (fun w hw => hw.2.2.2.1) rfl ?_ | refine LdN.one (a := some ⟨cb, 0, none⟩) (q := 2) (xs := [_, _, _, _, _]) _ rfl (fun w hw => hw.2.2.2.1) rfl ?_ | refine LdN.one (a := some ⟨cb, 0, none⟩) (q := 3) (xs := [_, _, _, _, _]) _ rfl (fun w hw => hw.2.2.2.1) rfl ?_ | refine LdN.one (a := some ⟨cb, 0, none⟩) (q := 4) (xs := [_, _, _, _, _]) _ rfl (fun w hw => hw.2.2.2.1) rfl ?_ | refine RwN.own ?_ | refine VrN.norm (wrap_i64 (by omega)) ?_ | refine VrN.keep ?_ | refine Nd.mk (by decide +kernel) ?_ | refine Nd.mk (by omega) ?_ | (refine Nd.mk ?_ ?_; focus ((repeat' (first | exact trivial | exact wkE_refl _ | refine And.intro ?_ ?_)); done)) | refine RdN.intro _ rfl (by rfl) ?_); (conv => whnf))))
      refine LdN.one (.int .i64 (xn : Int)) rfl (fun w hw => (hw.2.2.1.1.2 _ hpm).2) (by rw [Int.toNat_natCast]; show (iC items)[k * 1]? = _; rw [Nat.mul_one]; exact iC_get hx) ?_
      ((conv => whnf); (repeat ((first | refine LdN.one (a := some ⟨cb, 0, none⟩) (q := 0) (xs := [_, _, _, _, _]) _ rfl (fun w hw => hw.2.2.2.1) rfl ?_ | refine LdN.one (a := some ⟨cb, 0, none⟩) (q := 1) (xs := [_, _, _, _, _]) _ rfl (fun w hw => hw.2.2.2.1) rfl ?_ | refine LdN.one (a := some ⟨cb, 0, none⟩) (q := 2) (xs := [_, _, _, _, _]) _ rfl (fun w hw => hw.2.2.2.1) rfl ?_ | refine LdN.one (a := some ⟨cb, 0, none⟩) (q := 3) (xs := [_, _, _, _, _]) _ rfl (fun w hw => hw.2.2.2.1) rfl ?_ | refine LdN.one (a := some ⟨cb, 0, none⟩) (q := 4) (xs := [_, _, _, _, _]) _ rfl (fun w hw => hw.2.2.2.1) rfl ?_ | refine RwN.own ?_ | refine VrN.norm (wrap_i64 (by omega)) ?_ | refine VrN.keep ?_ | refine Nd.mk (by decide +kernel) ?_ | refine Nd.mk (by omega) ?_ | (refine Nd.mk ?_ ?_; focus ((repeat' (first | exact trivial | exact wkE_refl _ | refine And.intro ?_ ?_)); done)) | refine RdN.intro _ rfl (by rfl) ?_); (conv => whnf))))
      refine DrawN.planK hm (fun w => SlAt (some ⟨cb, 0, none⟩) 5 [.int .i64 8, .int .i64 num, .string (bs text), .slice na names.length nc, .slice ia items.length ic] w ∧ SlAt na (names.length * 1) (strC names) w) [3] [0, 4, 8, 10] [(1, 1), (2, 1), (5, 1), (9, 1), (11, 1), (12, 1), (3, 2), (6, 0), (7, 0), (13, 0), (14, 0), (15, 0)] (by decide +kernel) (fun w hw => ⟨hw.2.2.2.1, (hw.2.2.1.1.2 _ hpm).1⟩) ?_
      -- fun w hw => ⟨hw.2.2.2.1, (hw.2.2.1.1.2 _ hpm).1⟩: why the kind holds
      ((conv => whnf); (repeat ((first | refine Nd.mk (fun w hw => ⟨hw.2.2.2.1, (hw.2.2.1.1.2 _ hpm).1⟩) ?_ | refine VrN.norm (wrap_i64 (by omega)) ?_ | refine VrN.keep ?_ | refine Nd.mk (by decide +kernel) ?_ | refine Nd.mk (by omega) ?_ | refine RdN.intro _ rfl (by rfl) ?_); (conv => whnf))))
      refine BlindW.min2 (x := .tmp 68) (y := .const (.int .i64 1)) (a := (k : Int)) (b := 1) rfl rfl ?_ rfl ?_
      · rfl
      -- fun w hw => ⟨hw.2.2.2.1, (hw.2.2.1.1.2 _ hpm).1⟩: why the kind holds
      ((conv => whnf); (repeat ((first | refine Nd.mk (fun w hw => ⟨hw.2.2.2.1, (hw.2.2.1.1.2 _ hpm).1⟩) ?_ | refine VrN.norm (wrap_i64 (by omega)) ?_ | refine VrN.keep ?_ | refine Nd.mk (by decide +kernel) ?_ | refine Nd.mk (by omega) ?_ | refine RdN.intro _ rfl (by rfl) ?_); (conv => whnf))))
      refine ReadC.one (T := 40) (x := .tmp 72) (a := some ⟨cb, 0, none⟩) (q := 3) (k := 5) (xs := [.int .i64 8, .int .i64 num, .string (bs text), .slice na names.length nc, .slice ia items.length ic]) (.slice na names.length nc) ?_ ?_ ?_ ?_ ?_ ?_
      · rfl
      · rfl
      · rfl
      · exact fun w hw => hw.1
      · rfl
      -- fun w hw => ⟨hw.2.2.2.1, (hw.2.2.1.1.2 _ hpm).1⟩: why the kind holds
      ((conv => whnf); (repeat ((first | refine Nd.mk (fun w hw => ⟨hw.2.2.2.1, (hw.2.2.1.1.2 _ hpm).1⟩) ?_ | refine VrN.norm (wrap_i64 (by omega)) ?_ | refine VrN.keep ?_ | refine Nd.mk (by decide +kernel) ?_ | refine Nd.mk (by omega) ?_ | refine RdN.intro _ rfl (by rfl) ?_); (conv => whnf))))
      refine ReadC.idxA (T := 40) (x := .tmp 73) (i := .tmp 74) (kk := .i64) (e := 9) (sz := 1) (a := na) (n := names.length) (cap := nc) k rfl Tryz.underlying40 rfl rfl ?_ ?_ hsn (by omega) ?_
      · rfl
      · rfl
      -- fun w hw => ⟨hw.2.2.2.1, (hw.2.2.1.1.2 _ hpm).1⟩: why the kind holds
      ((conv => whnf); (repeat ((first | refine Nd.mk (fun w hw => ⟨hw.2.2.2.1, (hw.2.2.1.1.2 _ hpm).1⟩) ?_ | refine VrN.norm (wrap_i64 (by omega)) ?_ | refine VrN.keep ?_ | refine Nd.mk (by decide +kernel) ?_ | refine Nd.mk (by omega) ?_ | refine RdN.intro _ rfl (by rfl) ?_); (conv => whnf))))
      refine ReadC.one (T := 9) (x := .tmp 75) (a := na) (q := k * 1) (k := names.length * 1) (xs := strC names) (.string (bs nm)) ?_ ?_ ?_ ?_ ?_ ?_
      · rfl
      · rfl
      · rfl
      · exact fun w hw => hw.2
      · rw [Nat.mul_one]; exact strC_get hnm
      -- fun w hw => ⟨hw.2.2.2.1, (hw.2.2.1.1.2 _ hpm).1⟩: why the kind holds
      ((conv => whnf); (repeat ((first | refine Nd.mk (fun w hw => ⟨hw.2.2.2.1, (hw.2.2.1.1.2 _ hpm).1⟩) ?_ | refine VrN.norm (wrap_i64 (by omega)) ?_ | refine VrN.keep ?_ | refine Nd.mk (by decide +kernel) ?_ | refine Nd.mk (by omega) ?_ | refine RdN.intro _ rfl (by rfl) ?_); (conv => whnf))))
      intro rb
      -- fun w hw => ⟨hw.2.2.2.1, (hw.2.2.1.1.2 _ hpm).1⟩: why the kind holds
      ((conv => whnf); (repeat ((first | refine Nd.mk (fun w hw => ⟨hw.2.2.2.1, (hw.2.2.1.1.2 _ hpm).1⟩) ?_ | refine VrN.norm (wrap_i64 (by omega)) ?_ | refine VrN.keep ?_ | refine Nd.mk (by decide +kernel) ?_ | refine Nd.mk (by omega) ?_ | refine RdN.intro _ rfl (by rfl) ?_); (conv => whnf))))
      refine Nd.mk ⟨rfl, by unfold minI; split <;> omega, by unfold minI; split <;> omega⟩ ?_
      -- fun w hw => ⟨hw.2.2.2.1, (hw.2.2.1.1.2 _ hpm).1⟩: why the kind holds
      ((conv => whnf); (repeat ((first | refine Nd.mk (fun w hw => ⟨hw.2.2.2.1, (hw.2.2.1.1.2 _ hpm).1⟩) ?_ | refine VrN.norm (wrap_i64 (by omega)) ?_ | refine VrN.keep ?_ | refine Nd.mk (by decide +kernel) ?_ | refine Nd.mk (by omega) ?_ | refine RdN.intro _ rfl (by rfl) ?_); (conv => whnf))))
      obtain ⟨sp, hsp⟩ : ∃ sp : List UInt8, sp = if k = 0 then [32] else [44, 32] := ⟨_, rfl⟩
      have hspl : sp.length ≤ 2 := by rw [hsp]; split <;> simp
      refine LdN.one (a := some ⟨rb, 0, none⟩) (xs := [.string { data := #[32] }, .string { data := #[44, 32] }]) (.string (bs sp)) rfl (fun w hw => hw.2.2.2.2.1) ?_ ?_
      · rw [hsp]
        rcases Nat.eq_zero_or_pos k with hk0 | hk0
        · rw [if_pos hk0, hk0]; rfl
        · rw [if_neg (by omega), show minI (k : Int) 1 = if k = 1 then 1 else 1 by unfold minI; split <;> split <;> omega]
          split <;> rfl
      -- fun w hw => ⟨hw.2.2.2.1, (hw.2.2.1.1.2 _ hpm).1⟩: why the kind holds
      ((conv => whnf); (repeat ((first | refine Nd.mk (fun w hw => ⟨hw.2.2.2.1, (hw.2.2.1.1.2 _ hpm).1⟩) ?_ | refine VrN.norm (wrap_i64 (by omega)) ?_ | refine VrN.keep ?_ | refine Nd.mk (by decide +kernel) ?_ | refine Nd.mk (by omega) ?_ | refine RdN.intro _ rfl (by rfl) ?_); (conv => whnf))))
      refine Nd.mk (by rw [bs_size, bs_size]; omega) ?_
      rw [bs_app]
      -- fun w hw => ⟨hw.2.2.2.1, (hw.2.2.1.1.2 _ hpm).1⟩: why the kind holds
      ((conv => whnf); (repeat ((first | refine Nd.mk (fun w hw => ⟨hw.2.2.2.1, (hw.2.2.1.1.2 _ hpm).1⟩) ?_ | refine VrN.norm (wrap_i64 (by omega)) ?_ | refine VrN.keep ?_ | refine Nd.mk (by decide +kernel) ?_ | refine Nd.mk (by omega) ?_ | refine RdN.intro _ rfl (by rfl) ?_); (conv => whnf))))
      refine Nd.mk (by show (bs (sp ++ nm)).size + 1 < _; rw [bs_size]; simp; omega) ?_
      rw [show (bs (sp ++ nm) ++ ({ data := #[61] } : ByteArray)) = bs (sp ++ nm ++ [61]) by rw [← bs_app]; rfl]
      -- fun w hw => ⟨hw.2.2.2.1, (hw.2.2.1.1.2 _ hpm).1⟩: why the kind holds
      ((conv => whnf); (repeat ((first | refine Nd.mk (fun w hw => ⟨hw.2.2.2.1, (hw.2.2.1.1.2 _ hpm).1⟩) ?_ | refine VrN.norm (wrap_i64 (by omega)) ?_ | refine VrN.keep ?_ | refine Nd.mk (by decide +kernel) ?_ | refine Nd.mk (by omega) ?_ | refine RdN.intro _ rfl (by rfl) ?_); (conv => whnf))))
      have hnd : names.getD k [] = nm := by rw [List.getD_eq_getElem?_getD, hnm]; rfl
      refine callG (WriteString_w _ _ way2 j3 true (foldT ff (preT (Cell.mk 8 num text names items)) 0 (items.take k) (out ++ ([35, 60] ++ text))) (sp ++ nm ++ [61]) i3 hi3 (by have := hfold k; simp only [List.length_append, List.length_cons, List.length_nil] at this ⊢; omega)) [0, 1, 2, 3] rfl ⟨rfl, rfl, rfl, rfl, trivial⟩ rfl fun i6 hi6 => ?_
      -- fun w hw => ⟨hw.2.2.2.1, (hw.2.2.1.1.2 _ hpm).1⟩: why the kind holds
      ((conv => whnf); (repeat ((first | refine Nd.mk (fun w hw => ⟨hw.2.2.2.1, (hw.2.2.1.1.2 _ hpm).1⟩) ?_ | refine VrN.norm (wrap_i64 (by omega)) ?_ | refine VrN.keep ?_ | refine Nd.mk (by decide +kernel) ?_ | refine Nd.mk (by omega) ?_ | refine RdN.intro _ rfl (by rfl) ?_); (conv => whnf))))
      ((conv => whnf); (repeat ((first | refine LdN.one (a := some ⟨cb, 0, none⟩) (q := 0) (xs := [_, _, _, _, _]) _ rfl (fun w hw => hw.2.2.2.1) rfl ?_ | refine LdN.one (a := some ⟨cb, 0, none⟩) (q := 1) (xs := [_, _, _, _, _]) _ rfl (fun w hw => hw.2.2.2.1) rfl ?_ | refine LdN.one (a := some ⟨cb, 0, none⟩) (q := 2) (xs := [_, _, _, _, _]) _ rfl (fun w hw => hw.2.2.2.1) rfl ?_ | refine LdN.one (a := some ⟨cb, 0, none⟩) (q := 3) (xs := [_, _, _, _, _]) _ rfl (fun w hw => hw.2.2.2.1) rfl ?_ | refine LdN.one (a := some ⟨cb, 0, none⟩) (q := 4) (xs := [_, _, _, _, _]) _ rfl (fun w hw => hw.2.2.2.1) rfl ?_ | refine RwN.own ?_ | refine VrN.norm (wrap_i64 (by omega)) ?_ | refine VrN.keep ?_ | refine Nd.mk (by decide +kernel) ?_ | refine Nd.mk (by omega) ?_ | (refine Nd.mk ?_ ?_; focus ((repeat' (first | exact trivial | exact wkE_refl _ | refine And.intro ?_ ?_)); done)) | refine RdN.intro _ rfl (by rfl) ?_); (conv => whnf))))
      refine callG (ih (by omega) (foldT ff (preT (Cell.mk 8 num text names items)) 0 (items.take k) (out ++ ([35, 60] ++ text)) ++ (sp ++ nm ++ [61])) way2 i6 j3 xn hi6 hj3 hx1 hnd2 hr2 (by omega) (by have := hfold k; simp only [List.length_append, List.length_cons, List.length_nil] at this ⊢; omega)) [0, 1, 2, 3] rfl ⟨rfl, rfl, rfl, rfl, trivial⟩ rfl fun st hst => ?_
      obtain ⟨i5, j5⟩ := st
      obtain ⟨hi5, hj5⟩ := hst
      simp only at hi5 hj5
      ((conv => whnf); (repeat ((first | refine LdN.one (a := some ⟨cb, 0, none⟩) (q := 0) (xs := [_, _, _, _, _]) _ rfl (fun w hw => hw.2.2.2.1) rfl ?_ | refine LdN.one (a := some ⟨cb, 0, none⟩) (q := 1) (xs := [_, _, _, _, _]) _ rfl (fun w hw => hw.2.2.2.1) rfl ?_ | refine LdN.one (a := some ⟨cb, 0, none⟩) (q := 2) (xs := [_, _, _, _, _]) _ rfl (fun w hw => hw.2.2.2.1) rfl ?_ | refine LdN.one (a := some ⟨cb, 0, none⟩) (q := 3) (xs := [_, _, _, _, _]) _ rfl (fun w hw => hw.2.2.2.1) rfl ?_ | refine LdN.one (a := some ⟨cb, 0, none⟩) (q := 4) (xs := [_, _, _, _, _]) _ rfl (fun w hw => hw.2.2.2.1) rfl ?_ | refine RwN.own ?_ | refine VrN.norm (wrap_i64 (by omega)) ?_ | refine VrN.keep ?_ | refine Nd.mk (by decide +kernel) ?_ | refine Nd.mk (by omega) ?_ | (refine Nd.mk ?_ ?_; focus ((repeat' (first | exact trivial | exact wkE_refl _ | refine And.intro ?_ ?_)); done)) | refine RdN.intro _ rfl (by rfl) ?_); (conv => whnf))))
      have hfs := foldT_take (f := ff) (pre := preT (Cell.mk 8 num text names items)) hx (out ++ ([35, 60] ++ text))
      rw [show preT (Cell.mk 8 num text names items) k = sp ++ nm ++ [61] from by rw [preT_8 rfl, ← hsp]; show sp ++ names.getD k [] ++ [61] = _; rw [hnd], hfx] at hfs
      refine ⟨(k + 1, i5, j5), ⟨by omega, by rw [hfs]; exact hi5, hj5⟩, by show items.length - (k + 1) < items.length - k; omega, ?_, ?_⟩
      · (repeat' (first | exact trivial | refine And.intro (by with_reducible rfl) ?_ | (with_reducible exact wkC_refl _) | (with_reducible exact wkCs_refl _) | refine And.intro ?_ ?_))
        all_goals first | rfl | exact av_int (by rw [wrap_i64 (by omega)]; omega) | exact av_int (by omega)
      · show wkH _ (wH _ _ true (foldT ff _ 0 (items.take (k + 1)) _) _ _ _ ++ _)
        rw [hfs]
        exact ⟨wkE_refl _, wkE_refl _, wkE_refl _, wkE_refl _, trivial, wkE_refl _, trivial, trivial⟩
    · have hin : k = items.length := by omega
      subst hin
      rw [List.take_length] at hi3 ⊢
      have hfe := hfold items.length
      rw [List.take_length] at hfe
      obtain ⟨wb, wc⟩ := j3
      cases wb with
      | none =>
        have := (hj3.1 rfl).1
        omega
      | some wb =>
      have hwc3 : way2.length ≤ wc := hj3.2.1
      ((conv => whnf); (repeat ((first | refine LdN.one (a := some ⟨cb, 0, none⟩) (q := 0) (xs := [_, _, _, _, _]) _ rfl (fun w hw => hw.2.2.2.1) rfl ?_ | refine LdN.one (a := some ⟨cb, 0, none⟩) (q := 1) (xs := [_, _, _, _, _]) _ rfl (fun w hw => hw.2.2.2.1) rfl ?_ | refine LdN.one (a := some ⟨cb, 0, none⟩) (q := 2) (xs := [_, _, _, _, _]) _ rfl (fun w hw => hw.2.2.2.1) rfl ?_ | refine LdN.one (a := some ⟨cb, 0, none⟩) (q := 3) (xs := [_, _, _, _, _]) _ rfl (fun w hw => hw.2.2.2.1) rfl ?_ | refine LdN.one (a := some ⟨cb, 0, none⟩) (q := 4) (xs := [_, _, _, _, _]) _ rfl (fun w hw => hw.2.2.2.1) rfl ?_ | refine RwN.own ?_ | refine VrN.norm (wrap_i64 (by omega)) ?_ | refine VrN.keep ?_ | refine Nd.mk (by decide +kernel) ?_ | refine Nd.mk (by omega) ?_ | (refine Nd.mk ?_ ?_; focus ((repeat' (first | exact trivial | exact wkE_refl _ | refine And.intro ?_ ?_)); done)) | refine RdN.intro _ rfl (by rfl) ?_); (conv => whnf))))
      refine callG (WriteString_w _ _ way2 ⟨some wb, wc⟩ true (foldT ff (preT (Cell.mk 8 num text names items)) 0 items (out ++ ([35, 60] ++ text))) [62] i3 hi3 (by simp only [List.length_cons, List.length_nil]; omega)) [0, 1, 2, 3] rfl ⟨rfl, rfl, rfl, rfl, trivial⟩ rfl fun i7 hi7 => ?_
      ((conv => whnf); (repeat ((first | refine LdN.one (a := some ⟨cb, 0, none⟩) (q := 0) (xs := [_, _, _, _, _]) _ rfl (fun w hw => hw.2.2.2.1) rfl ?_ | refine LdN.one (a := some ⟨cb, 0, none⟩) (q := 1) (xs := [_, _, _, _, _]) _ rfl (fun w hw => hw.2.2.2.1) rfl ?_ | refine LdN.one (a := some ⟨cb, 0, none⟩) (q := 2) (xs := [_, _, _, _, _]) _ rfl (fun w hw => hw.2.2.2.1) rfl ?_ | refine LdN.one (a := some ⟨cb, 0, none⟩) (q := 3) (xs := [_, _, _, _, _]) _ rfl (fun w hw => hw.2.2.2.1) rfl ?_ | refine LdN.one (a := some ⟨cb, 0, none⟩) (q := 4) (xs := [_, _, _, _, _]) _ rfl (fun w hw => hw.2.2.2.1) rfl ?_ | refine RwN.own ?_ | refine VrN.norm (wrap_i64 (by omega)) ?_ | refine VrN.keep ?_ | refine Nd.mk (by decide +kernel) ?_ | refine Nd.mk (by omega) ?_ | (refine Nd.mk ?_ ?_; focus ((repeat' (first | exact trivial | exact wkE_refl _ | refine And.intro ?_ ?_)); done)) | refine RdN.intro _ rfl (by rfl) ?_); (conv => whnf))))
      -- i7: the Builder's place
      refine DrawN.plan [0, 1, 5] [(2, 1), (3, 1), (4, 1), (6, 1), (7, 1), (8, 1), (9, 1), (10, 1), (11, 1), (12, 1), (13, 1)] [(14, 0)] (by decide +kernel) ?_
      ((conv => whnf); (repeat ((first | refine BoxN.own ?_ | refine RwN.own ?_ | refine VrN.norm (wrap_i64 (by omega)) ?_ | refine VrN.keep ?_ | refine Nd.mk (by decide +kernel) ?_ | refine Nd.mk (by omega) ?_ | (refine Nd.mk ?_ ?_; focus ((repeat' (first | exact trivial | exact wkE_refl _ | refine And.intro ?_ ?_)); done)) | refine RdN.intro _ rfl (by rfl) ?_); (conv => whnf))))
      rw [show IntKind.i64.wrap ((way2.length : Int) - 1) = (way.length : Int) by rw [wrap_i64 (by omega)]; omega]
      refine ReadW.slc_hi rfl (by kernel_rfl) rfl rfl (by show (0 : Int) ≤ (way.length : Int) ∧ (way.length : Int) ≤ (wc : Int); omega) ?_
      rw [Int.toNat_natCast]
      ((conv => whnf); (repeat ((first | refine BoxN.own ?_ | refine RwN.own ?_ | refine VrN.norm (wrap_i64 (by omega)) ?_ | refine VrN.keep ?_ | refine Nd.mk (by decide +kernel) ?_ | refine Nd.mk (by omega) ?_ | (refine Nd.mk ?_ ?_; focus ((repeat' (first | exact trivial | exact wkE_refl _ | refine And.intro ?_ ?_)); done)) | refine RdN.intro _ rfl (by rfl) ?_); (conv => whnf))))
      refine ⟨(i7, ⟨some wb, wc⟩), ⟨hi7, (fun h => by cases h), by show way.length ≤ wc; omega, fun h => by have : wc = 0 := h; omega⟩, rfl, ⟨rfl, rfl, rfl, rfl, rfl, trivial⟩, wkE_refl _, .inr (.inr ⟨rfl, rfl, ?_, rfl, by omega, rfl⟩), wkE_refl _, trivial⟩
      rw [hway2, Nat.mul_one]
      simp [iC]
end Go.Proofs.YtahjbnfbilkbcaaGreatDoor

/-
  Contract: Text (program).
-/
namespace Go.Proofs.YtahjbnfbilkbcaaGreatDoor
open Go.AX Go.RowKit Go.Core Go.Scan
set_option maxRecDepth 20000

/-- The text that is told. -/
def textP (lf : Cell → List UInt8) (g : List Cell) (u : Int) : List UInt8 := (writeS 20000 lf g (g.length + 2) [] [] u).take 20000
set_option maxHeartbeats 4000000 in
theorem Text_c {a : Option Addr} (ca : Nat) {l : List CellP} {E : World → Prop} {qt : List UInt8 → List UInt8} {it : Int → List UInt8} (ha : a = none → l = []) (hs : Small l) (hok : ∀ p ∈ l, CellOk p) (V : ValidP (l.map (·.c)) → WEnv a l E qt it) (u : Int) :
    ∀ H, (∀ w, Facts H w → gF a l E w) → ∃ e : Bool, (e = true ↔ AskP (l.map (·.c)) [u]) ∧ SpecH Tryz.prog 20 (pvs [.slice a l.length ca, .int .i64 u]) H (Ret (.tuple #[.string (bs (if e then textP (leafS qt it) (l.map (·.c)) u else [])), errI e]) H) := by
  intro H hH
  obtain ⟨e, he⟩ : ∃ b : Bool, b = true ↔ AskP (l.map (·.c)) [u] := by
    by_cases h : AskP (l.map (·.c)) [u]
    · exact ⟨true, fun _ => h, fun _ => rfl⟩
    · exact ⟨false, (fun h => by cases h), fun h2 => absurd h2 h⟩
  refine ⟨e, he, ?_⟩
  refine factC hm Tryz.func20 (by kernel_rfl) rfl rfl ?_ H hH
  ((conv => whnf); (repeat ((first | refine BoxN.own ?_ | refine VrN.norm (wrap_i64 (by omega)) ?_ | refine VrN.keep ?_ | refine DrawN.calm (by decide +kernel) ?_ | refine Nd.mk (by decide +kernel) ?_ | refine Nd.mk (by omega) ?_ | (refine Nd.mk ?_ ?_; focus ((repeat' (first | exact trivial | exact wkE_refl _ | refine And.intro ?_ ?_)); done)) | refine RdN.intro _ rfl (by rfl) ?_); (conv => whnf))))
  refine RwN.known [.int .i64 u] rfl fun rb => ?_
  ((conv => whnf); (repeat ((first | refine BoxN.own ?_ | refine VrN.norm (wrap_i64 (by omega)) ?_ | refine VrN.keep ?_ | refine DrawN.calm (by decide +kernel) ?_ | refine Nd.mk (by decide +kernel) ?_ | refine Nd.mk (by omega) ?_ | (refine Nd.mk ?_ ?_; focus ((repeat' (first | exact trivial | exact wkE_refl _ | refine And.intro ?_ ?_)); done)) | refine RdN.intro _ rfl (by rfl) ?_); (conv => whnf))))
  obtain ⟨t, ht1, ht2⟩ := asked_c a ca l ha hs hok (some ⟨rb, 0, none⟩) 1 [u] (fun h => by cases h) (by simp) [.fact (gF a l E), .app 3 1 [.int .i64 u] (some ⟨rb, 0, none⟩) 1 1] (fun w hw => ⟨hw.1.1, hw.2.1⟩)
  obtain rfl : t = e := by rw [Bool.eq_iff_iff, ht1, he]
  refine call1 ht2 ?_
  cases t with
  | false =>
    (first | refine wX ?_ | exact wZ)
    rfl
  | true =>
    have hask := he.1 rfl
    have hu := hask.2 u (by simp)
    obtain ⟨v, rfl⟩ : ∃ v : Nat, u = (v : Int) := ⟨u.toNat, by omega⟩
    have hgl : (l.map (·.c)).length = l.length := by simp
    have h500 := hask.1.1
    have hwe := V hask.1
    (first | refine wX ?_ | exact wZ)
    refine SpecH.pad [.app 5 1 [] none 0 0, .app 3 1 [] none 0 0] rfl ?_
    have hok0 : BSt.ok (0 : Nat) ⟨none, 0⟩ := ⟨fun _ => ⟨rfl, rfl⟩, Nat.le_refl _, fun _ => rfl⟩
    refine callG (write_f ca hwe (l.length + 1) (by omega) [] [] ⟨none, 0⟩ ⟨none, 0⟩ v hok0 hok0 (by omega) List.nodup_nil (fun x hx => by cases hx) (by simp) (by simp)) [2, 3, 4, 0] rfl ⟨rfl, rfl, rfl, rfl, trivial⟩ rfl fun st hst => ?_
    obtain ⟨i2, j2⟩ := st
    obtain ⟨hi2, hj2⟩ := hst
    simp only at hi2 hj2
    have htp : textP (leafS qt it) (l.map (·.c)) (v : Int) = (writeS 20000 (leafS qt it) (l.map (·.c)) (l.length + 1 + 1) [] [] (v : Int)).take 20000 := by unfold textP; rw [hgl]
    rw [htp]
    generalize writeS 20000 (leafS qt it) (l.map (·.c)) (l.length + 1 + 1) [] [] (v : Int) = T at *
    (first | refine wX ?_ | exact wZ)
    refine callG (String_w _ _ [] j2 true T i2 hi2) [2, 3, 4, 0] rfl ⟨rfl, rfl, rfl, rfl, trivial⟩ rfl fun _ _ => ?_
    (first | refine wX ?_ | exact wZ)
    rw [bs_size]
    refine ReadW.sl_h (min T.length 20000) rfl Tryz.underlying9 rfl rfl ⟨by unfold minI; split <;> omega, Nat.min_le_left _ _⟩ ?_
    rw [show T.take (min T.length 20000) = T.take 20000 by
      rcases Nat.le_total T.length 20000 with h | h
      · rw [Nat.min_eq_left h, List.take_of_length_le (Nat.le_refl _), List.take_of_length_le h]
      · rw [Nat.min_eq_right h]]
    (first | refine wX ?_ | exact wZ)
    rfl
end Go.Proofs.YtahjbnfbilkbcaaGreatDoor

/-
  Numbers and quoted texts, as both writers write them.
-/
namespace Go.Proofs.YtahjbnfbilkbcaaGreatDoor
open Go.AX Go.RowKit Go.Core Go.Scan
set_option maxRecDepth 20000

end Go.Proofs.YtahjbnfbilkbcaaGreatDoor

/-
  Contract: the document writes a cell.
-/
namespace Go.Core
end Go.Core
namespace Go.Proofs.YtahjbnfbilkbcaaGreatDoor
open Go.AX Go.RowKit Go.Core Go.Scan
set_option maxRecDepth 20000

section
attribute [local irreducible] Int.decLt
end
end Go.Proofs.YtahjbnfbilkbcaaGreatDoor

/-
  Contract: the first example of the chapter (law).
-/
namespace Go.Proofs.YtahjbnfbilkbcaaGreatDoor
open Go.AX Go.RowKit Go.Core Go.Scan
set_option maxRecDepth 20000

def exC : Cell := ⟨6, 0, [], [], [0]⟩
def exP (ib : Nat) : CellP := ⟨exC, none, 0, some ⟨ib, 0, none⟩, 1⟩
def qI (s : List UInt8) : List UInt8 := s
def iI (_ : Int) : List UInt8 := []
theorem ex_val : ValidP [exC] := ⟨by decide, fun c hc => by rw [List.mem_singleton.1 hc]; decide, fun c hc h => by rw [List.mem_singleton.1 hc] at h; exact absurd h (by decide)⟩
theorem ex_ask : AskP [exC] [0] := ⟨ex_val, fun x hx => by rw [List.mem_singleton.1 hx]; decide⟩
theorem ex_text : textP (leafS qI iI) [exC] 0 = [91, 91, 46, 46, 46, 93, 93] := by decide +kernel
theorem ex_env (ib gb : Nat) : WEnv (some ⟨gb, 0, none⟩) [exP ib] (fun _ => True) qI iI := by
  refine ⟨(fun h => by cases h), ⟨by simp, fun p hp => ?_⟩, fun p hp => ?_, ex_val, fun p hp h => ?_, fun s => ?_, fun p hp h => ?_, fun x => Nat.zero_le _⟩
  · rw [List.mem_singleton.1 hp]; exact ⟨by show (0 : Nat) ≤ 2000; omega, by show (1 : Nat) ≤ 2000; omega⟩
  · rw [List.mem_singleton.1 hp]
    exact ⟨(fun _ => rfl), (fun h => by cases h), by show (0 : Nat) ≤ _; omega, by show (1 : Nat) ≤ _; omega, (fun s hs => by cases hs), by show (0 : Nat) ≤ _; omega, Nat.le_refl _, Nat.le_refl _⟩
  · rw [List.mem_singleton.1 hp] at h; exact absurd (show (6 : Int) = 4 from h) (by decide)
  · show s.length ≤ 2 * s.length; omega
  · rw [List.mem_singleton.1 hp] at h; exact absurd (show (6 : Int) = 3 from h) (by decide)
set_option maxHeartbeats 4000000 in
theorem sane_c : ∀ H, SpecH Tryz.prog 15 (pvs []) H (Ret (.bool true) H) := by
  refine pureC hm Tryz.func15 (by kernel_rfl) rfl rfl ?_
  ((conv => whnf); (repeat ((first | refine BoxN.own ?_ | refine VrN.norm (wrap_i64 (by omega)) ?_ | refine VrN.keep ?_ | refine DrawN.calm (by decide +kernel) ?_ | refine Nd.mk (by decide +kernel) ?_ | refine Nd.mk (by omega) ?_ | (refine Nd.mk ?_ ?_; focus ((repeat' (first | exact trivial | exact wkE_refl _ | refine And.intro ?_ ?_)); done)) | refine RdN.intro _ rfl (by rfl) ?_); (conv => whnf))))
  refine RwN.known [.int .i64 0] rfl fun ib => ?_
  ((conv => whnf); (repeat ((first | refine BoxN.own ?_ | refine VrN.norm (wrap_i64 (by omega)) ?_ | refine VrN.keep ?_ | refine DrawN.calm (by decide +kernel) ?_ | refine Nd.mk (by decide +kernel) ?_ | refine Nd.mk (by omega) ?_ | (refine Nd.mk ?_ ?_; focus ((repeat' (first | exact trivial | exact wkE_refl _ | refine And.intro ?_ ?_)); done)) | refine RdN.intro _ rfl (by rfl) ?_); (conv => whnf))))
  refine RwN.known [.int .i64 6, .int .i64 0, .string { data := #[] }, .slice none 0 0, .slice (some ⟨ib, 0, none⟩) 1 1] rfl fun gb => ?_
  ((conv => whnf); (repeat ((first | refine BoxN.own ?_ | refine VrN.norm (wrap_i64 (by omega)) ?_ | refine VrN.keep ?_ | refine DrawN.calm (by decide +kernel) ?_ | refine Nd.mk (by decide +kernel) ?_ | refine Nd.mk (by omega) ?_ | (refine Nd.mk ?_ ?_; focus ((repeat' (first | exact trivial | exact wkE_refl _ | refine And.intro ?_ ?_)); done)) | refine RdN.intro _ rfl (by rfl) ?_); (conv => whnf))))
  have he := ex_env ib gb
  obtain ⟨e, he1, he2⟩ := Text_c (E := fun _ => True) 1 he.ha he.sm he.ok (fun _ => he) 0 [.app 3 1 [.int .i64 0] (some ⟨ib, 0, none⟩) 1 1, .app 42 5 [.int .i64 6, .int .i64 0, .string { data := #[] }, .slice none 0 0, .slice (some ⟨ib, 0, none⟩) 1 1] (some ⟨gb, 0, none⟩) 1 1] (fun w hw => ⟨⟨hw.2.1, fun p hp => by
    rw [List.mem_singleton.1 hp]
    exact ⟨SlAt.nil, hw.1⟩⟩, trivial⟩)
  obtain rfl : e = true := he1.2 ex_ask
  have hx : (if true = true then textP (leafS qI iI) ([exP ib].map (·.c)) 0 else []) = [91, 91, 46, 46, 46, 93, 93] := ex_text
  rw [hx] at he2
  refine call1 he2 ?_
  (first | refine wX ?_ | exact wZ)
  rfl
end Go.Proofs.YtahjbnfbilkbcaaGreatDoor

/-
  Contracts: Is and Text (document); CoreTexts (law).
-/
namespace Go.Proofs.YtahjbnfbilkbcaaGreatDoor
open Go.AX Go.RowKit Go.Core Go.Scan
set_option maxRecDepth 20000

theorem small_as {l m : List CellP} (hs : Small l) (h : m.map (·.c) = l.map (·.c)) : Small m := by
  refine ⟨by have := congrArg List.length h; simp at this; have := hs.1; omega, fun p hp => ?_⟩
  have h1 : p.c ∈ l.map (·.c) := h ▸ List.mem_map_of_mem hp
  obtain ⟨q, hq, e⟩ := List.mem_map.1 h1
  rw [← e]
  exact hs.2 q hq
theorem RIs_c (a : Option Addr) (ca : Nat) (l : List CellP) (ha : a = none → l = []) (hl : l.length ≤ 200000000000000) (hok : ∀ p ∈ l, CellOk p) (u : Int) :
    ∀ H, (∀ w, Facts H w → GrF a l w) → ∃ b : Bool, (b = true ↔ AskP (l.map (·.c)) [u]) ∧ SpecH Tryz.prog 53 (pvs [.slice a l.length ca, .int .i64 u]) H (Ret (.bool b) H) := by
  intro H hH
  obtain ⟨b, hb⟩ : ∃ b : Bool, b = true ↔ AskP (l.map (·.c)) [u] := by
    by_cases h : AskP (l.map (·.c)) [u]
    · exact ⟨true, fun _ => h, fun _ => rfl⟩
    · exact ⟨false, (fun h => by cases h), fun h2 => absurd h2 h⟩
  refine ⟨b, hb, ?_⟩
  have hgl : (l.map (·.c)).length = l.length := by simp
  refine factC hm Tryz.func53 (by kernel_rfl) rfl rfl ?_ H hH
  (first | refine wX ?_ | exact wZ)
  obtain ⟨v, hv1, hv2⟩ := Valid_c a ca l ha hl hok [.fact (GrF a l)] (fun w hw => hw.1)
  refine call1 hv2 ?_
  cases v with
  | false =>
    (first | refine wX ?_ | exact wZ)
    exact out_bool (by
      cases b with
      | false => rfl
      | true => exact absurd (hv1.2 (hb.1 rfl).1) (by decide))
  | true =>
    (first | refine wX ?_ | exact wZ)
    refine brd_dec (fun h1 => ?_) (fun h1 => ?_)
    · (first | refine wX ?_ | exact wZ)
      refine out_bool ?_
      rw [Bool.eq_iff_iff, hb, decide_eq_true_eq]
      constructor
      · intro h
        exact ⟨hv1.1 rfl, fun x hx => by rw [List.mem_singleton.1 hx]; omega⟩
      · intro h
        have := h.2 u (by simp)
        omega
    · (first | refine wX ?_ | exact wZ)
      refine out_bool ?_
      cases b with
      | false => rfl
      | true => have := (hb.1 rfl).2 u (by simp); omega
end Go.Proofs.YtahjbnfbilkbcaaGreatDoor

/-
  Contracts: reach, Reach (program).
-/
namespace Go.Proofs.YtahjbnfbilkbcaaGreatDoor
open Go.AX Go.RowKit Go.Core
set_option maxRecDepth 20000

end Go.Proofs.YtahjbnfbilkbcaaGreatDoor

/-
  Contracts: slices.ContainsFunc of numbers, by a closure that writes a map; circular (program).
-/
namespace Go.Core
end Go.Core
namespace Go.Proofs.YtahjbnfbilkbcaaGreatDoor
open Go.AX Go.RowKit Go.Core
set_option maxRecDepth 20000

def colour (u d : List Int) (i : Int) : Int := if i ∈ u then 1 else if i ∈ d then 2 else 0
def okC (u d : List Int) (st : Array MapEntry × Nat) : Prop := ∃ R : List (Int × Value), KeysAre (fun k : Int => .int .i64 k) st.1.toList R ∧ ∀ i, (R.lookup i).getD (.int .i64 0) = .int .i64 (colour u d i)
end Go.Proofs.YtahjbnfbilkbcaaGreatDoor

/-
  Plain: how deep what is reached is.
-/
namespace Go.Core
/-- How deep a cell is. -/
def htF (g : List Cell) : Nat → Int → Nat
  | 0, _ => 0
  | n + 1, i => (outs g i).foldl (fun m k => max m (htF g n k)) 0 + 1
def dep (g : List Cell) (i : Int) : Nat := htF g g.length i
end Go.Core

/-
  Contract: how deep (program).
-/
namespace Go.Proofs.YtahjbnfbilkbcaaGreatDoor
open Go.AX Go.RowKit Go.Core
set_option maxRecDepth 20000

end Go.Proofs.YtahjbnfbilkbcaaGreatDoor

/-
  Contract: the document's list of pairs (equal).
-/
namespace Go.Core
/-- A pair's place among all. -/
def idxP (n : Nat) (p : Int × Int) : Nat := p.1.toNat * n + p.2.toNat
theorem idxP_lt {g : List Cell} {p : Int × Int} (h : InP g p) : idxP g.length p < g.length * g.length := by
  obtain ⟨⟨h1, h2⟩, h3, h4⟩ := h
  unfold idxP
  have : (p.1.toNat + 1) * g.length ≤ g.length * g.length := Nat.mul_le_mul_right _ (by omega)
  rw [Nat.add_mul, Nat.one_mul] at this
  omega
theorem idxP_inj {g : List Cell} {p q : Int × Int} (hp : InP g p) (hq : InP g q) (h : idxP g.length p = idxP g.length q) : p = q := by
  obtain ⟨⟨a1, a2⟩, a3, a4⟩ := hp
  obtain ⟨⟨b1, b2⟩, b3, b4⟩ := hq
  unfold idxP at h
  have m1 : (p.1.toNat * g.length + p.2.toNat) % g.length = p.2.toNat := by rw [Nat.mul_add_mod_self_right]; exact Nat.mod_eq_of_lt (by omega)
  have m2 : (q.1.toNat * g.length + q.2.toNat) % g.length = q.2.toNat := by rw [Nat.mul_add_mod_self_right]; exact Nat.mod_eq_of_lt (by omega)
  have hz : p.2.toNat = q.2.toNat := by rw [← m1, ← m2, h]
  have hx : p.1.toNat = q.1.toNat := Nat.eq_of_mul_eq_mul_right (show 0 < g.length by omega) (by omega)
  exact Prod.ext (by omega) (by omega)
/-- Which pairs were seen. -/
structure SeenS (g : List Cell) (l : List (Int × Int)) (S : List Bool) : Prop where
  len : S.length = g.length * g.length
  get : ∀ p, InP g p → S[idxP g.length p]? = some (decide (p ∈ l))
theorem SeenS.none (g : List Cell) : SeenS g [] (List.replicate (g.length * g.length) false) := ⟨by simp, fun p hp => by rw [List.getElem?_replicate, if_pos (idxP_lt hp)]; simp⟩
theorem SeenS.put {g : List Cell} {l : List (Int × Int)} {S : List Bool} (h : SeenS g l S) {p : Int × Int} (hp : InP g p) : SeenS g (l ++ [p]) (S.set (idxP g.length p) true) := by
  refine ⟨by rw [List.length_set, h.len], fun q hq => ?_⟩
  by_cases e : q = p
  · subst e
    rw [List.getElem?_set_self (by rw [h.len]; exact idxP_lt hq)]
    simp
  · rw [List.getElem?_set_ne (fun he => e (idxP_inj hp hq he).symm), h.get q hq]
    simp [e]
end Go.Core
namespace Go.Proofs.YtahjbnfbilkbcaaGreatDoor
open Go.AX Go.RowKit Go.Core
set_option maxRecDepth 20000

theorem sq_le {n : Nat} (h : n ≤ 500) : n * n ≤ 250000 := Nat.mul_le_mul h h
theorem mul_wrap {x y : Nat} (hx : x ≤ 500) (hy : y ≤ 500) : IntKind.i64.wrap ((x : Int) * (y : Int)) = ((x * y : Nat) : Int) := by
  have h := Nat.mul_le_mul hx hy
  rw [← Int.natCast_mul]
  exact wrap_i64 (by omega)
end Go.Proofs.YtahjbnfbilkbcaaGreatDoor

/-
  Contracts: OneKey, Equal (document), OneKey (program); CoreEquals (law).
-/
namespace Go.Core
theorem ask2 {g : List Cell} {u v : Int} : AskP g [u, v] ↔ AskP g [u] ∧ AskP g [v] := by
  constructor
  · intro h
    exact ⟨⟨h.1, fun x hx => h.2 x (by rw [List.mem_singleton.1 hx]; simp)⟩, h.1, fun x hx => h.2 x (by rw [List.mem_singleton.1 hx]; simp)⟩
  · intro ⟨h1, h2⟩
    refine ⟨h1.1, fun x hx => ?_⟩
    rcases List.mem_cons.1 hx with rfl | hx
    · exact h1.2 x (by simp)
    · exact h2.2 x hx
end Go.Core
namespace Go.Proofs.YtahjbnfbilkbcaaGreatDoor
open Go.AX Go.RowKit Go.Core
set_option maxRecDepth 20000

theorem ask_bool (g : List Cell) (cs : List Int) : ∃ b : Bool, b = true ↔ AskP g cs := by
  by_cases h : AskP g cs
  · exact ⟨true, fun _ => h, fun _ => rfl⟩
  · exact ⟨false, (fun h => by cases h), fun h2 => absurd h2 h⟩
end Go.Proofs.YtahjbnfbilkbcaaGreatDoor

/-
  Contracts: Reach, Circular, Depth (program).
-/
namespace Go.Proofs.YtahjbnfbilkbcaaGreatDoor
open Go.AX Go.RowKit Go.Core
set_option maxRecDepth 20000

end Go.Proofs.YtahjbnfbilkbcaaGreatDoor

/-
  Contracts: what is reached, whether a circle is, how deep (document).
-/
namespace Go.Proofs.YtahjbnfbilkbcaaGreatDoor
open Go.AX Go.RowKit Go.Core
set_option maxRecDepth 20000

end Go.Proofs.YtahjbnfbilkbcaaGreatDoor

/-
  Contract: whether a circle is reached (document).
-/
namespace Go.Core
end Go.Core
namespace Go.Proofs.YtahjbnfbilkbcaaGreatDoor
open Go.AX Go.RowKit Go.Core
set_option maxRecDepth 20000

end Go.Proofs.YtahjbnfbilkbcaaGreatDoor

/-
  Contract: how deep (document).
-/
namespace Go.Core
/-- What is known already. -/
def KnD (g : List Cell) (S : List Int) : Prop := S.length = g.length ∧ ∀ (j : Nat) (v : Int), S[j]? = some v → v = 0 ∨ (v = (dep g (j : Int) : Int) ∧ 0 < v)
theorem KnD.none (g : List Cell) : KnD g (List.replicate g.length 0) := ⟨by simp, fun j v h => by
  rw [List.getElem?_replicate] at h
  split at h
  · exact .inl (Option.some.inj h).symm
  · cases h⟩
theorem KnD.put {g : List Cell} {S : List Int} (h : KnD g S) {i : Nat} (hp : 0 < dep g (i : Int)) : KnD g (S.set i (dep g (i : Int) : Int)) := by
  refine ⟨by rw [List.length_set, h.1], fun j v hj => ?_⟩
  by_cases e : i = j
  · subst e
    rw [List.getElem?_set] at hj
    simp only [if_true] at hj
    split at hj
    · cases hj; exact .inr ⟨rfl, by omega⟩
    · cases hj
  · rw [List.getElem?_set_ne e] at hj
    exact h.2 j v hj
end Go.Core
namespace Go.Proofs.YtahjbnfbilkbcaaGreatDoor
open Go.AX Go.RowKit Go.Core
set_option maxRecDepth 20000

theorem iC_set (S : List Int) (i : Nat) (x : Int) : (iC S).set i (.int .i64 x) = iC (S.set i x) := by unfold iC; rw [List.map_set]
end Go.Proofs.YtahjbnfbilkbcaaGreatDoor

/-
  Contracts: Reach, Circular, Depth (document); CoreReaches (law).
-/
namespace Go.Proofs.YtahjbnfbilkbcaaGreatDoor
open Go.AX Go.RowKit Go.Core
set_option maxRecDepth 20000

end Go.Proofs.YtahjbnfbilkbcaaGreatDoor

/-
  AX, fifty-fifth text: a function that defers delete of a key of a map; pairs of numbers as keys.
-/
namespace Go.AX
open Go.RowKit

theorem findAsk_seek {P : Program} {kt it : TypeId} (h : PairT P kt it) (w : World) (p : Int × Int) : ∀ (es : List MapEntry) (R : List ((Int × Int) × Value)) (i : Nat), KeysAre pairV es R → (Instr.findAsking kt (pairV p) es i).run P w = .ok (seek p R i) w
  | [], [], i, _ => by simp [Instr.findAsking, seek]
  | [], r :: R, i, hr => by cases hr
  | e :: es, [], i, hr => by cases hr
  | e :: es, (q, v) :: R, i, hr => by
    unfold KeysAre at hr
    simp only [List.map_cons, List.cons.injEq, Prod.mk.injEq] at hr
    obtain ⟨⟨hk, hv⟩, hr⟩ := hr
    have hj := findAsk_seek h w p es R (i + 1) hr
    have he := h.equal w p q
    rw [← hk] at he
    unfold seek
    by_cases hpq : p = q
    · rw [if_pos hpq]
      simp [Instr.findAsking, he, hv, Result.andThen, decide_eq_true hpq]
    · rw [if_neg hpq]
      simp [Instr.findAsking, he, hpq, hj, Result.andThen]
theorem pairKeyT {P : Program} {kt it : TypeId} (h : PairT P kt it) : KeyT P kt pairV where
  check := fun w e k => h.check w e k
  find := fun w k es R hr => by
    rw [run_findKey_eq w (by rw [h.k])]
    exact findAsk_seek h w k es R 0 hr
  stay := fun w k => by
    have hs : Instr.sameBits 10000 (pairV k) (pairV k) = true := by
      show Instr.sameBits (9999 + 1) (.agg _) (.agg _) = true
      unfold Instr.sameBits
      have h0 : ∀ x : Int, Instr.sameBits 9999 (.int .i64 x) (.int .i64 x) = true := fun x => by
        show Instr.sameBits (9998 + 1) _ _ = true
        unfold Instr.sameBits
        simp
      simp [h0]
    unfold Instr.keyThatStays
    rw [hs]
    rfl

/-- Statements one behind the other. -/
def seqsC : List Code → Code → Code
  | [], e => e
  | c :: l, e => .seq c (seqsC l e)
def execLs (P : Program) (K : Ex → List AV → List Ent → Prop) (E : List AV → List Ent → Prop) (l : List Code) : List AV → List Ent → Prop :=
  List.rec (motive := fun _ => List AV → List Ent → Prop) E (fun c _ ih s H => exec P c s H (seqK (fun s H _ => ih s H) K)) l
/-- A deferred call of a builtin function, its arguments known. -/
def defD (c : Call) (b : Builtin) (T : TypeId) (xs : List Value) : Deferred := { target := .builtin b c.argTypes T (c.args.map fun | .const _ => true | _ => false), args := xs.toArray }
def endOp (o : Oper) (E : Deferred → List AV → List Ent → Prop) (e : Ex) (s : List AV) (H : List Ent) : Prop :=
  match e, o.op with
  | .normal, .defer c => match c.callee, plainS (opvs s c.args.toList) with
    | .builtin b, some xs => o.guard = none ∧ o.dst = none ∧ E (defD c b o.type xs) s H
    | _, _ => False
  | _, _ => False
/-- Ahead of the end a deferred call is made. -/
def QuitW (P : Program) (d : Deferred) (H : List Ent) (K : List Ent → Prop) : Prop :=
  ∃ H', K H' ∧ ∀ (ρ : List Loc) (S : Nat → Prop) (w : World), Sat ρ S H w → ∃ v w', (invoke d.target d.args).run P w = .ok (.value v) w' ∧ Sat ρ S H' w' ∧ Ev ρ S H w ρ S H' w'
def endQ (P : Program) (rs : List ResultVar) (K : Out → List Ent → Prop) (d : Deferred) (e : Ex) (s : List AV) (H : List Ent) : Prop :=
  match e with
  | .normal => QuitW P d H fun H' => resK P rs s H' fun out => K out H'
  | .ret => QuitW P d H fun H' => resK P rs s H' fun out => K out H'
  | .exit _ => False
  | .pan _ => False

theorem wpList_app {P : Program} {ops : Array Oper} {Q : Exit → Act → World → Prop} (r : List Oper) : ∀ (l : List Oper) (a : Act) (w : World), wpList P ops (fun e a w => match e with | .normal => wpList P ops Q r a w | e => Q e a w) l a w → wpList P ops Q (l ++ r) a w
  | [], a, w, h => h
  | o :: l, a, w, h => by
    rw [List.cons_append]
    unfold wpList at h ⊢
    split at h
    · rename_i hw
      rw [if_pos hw]
      rcases h with h | ⟨h1, a0, w0, h2⟩
      · refine .inl ?_
        have h2 := Oper.wp_mono (K' := wpList P ops Q (l ++ r)) (fun a w => wpList_app r l a w) h
        revert h2
        unfold Oper.wp
        generalize (execOp a.eval o).run P w = x
        intro h2
        cases x with
        | ok n w' =>
          cases n <;> simp only [Oper.upon] at h2 ⊢ <;> first
            | exact h2
            | exact h2.mono fun e w'' he => (by
                cases e with
                | returned v => exact he
                | panicked c => exact he
                | outgrown => obtain ⟨a0, w0, h0⟩ := he; exact ⟨a0, w0, h0⟩)
        | halt x w' => cases x <;> first | exact h2 | exact h2.elim
      · exact .inr ⟨h1, a0, w0, h2⟩
    · rename_i hw
      rw [if_neg hw]
      exact wpList_app r l _ _ h
theorem wpList_defer {P : Program} {ops : Array Oper} {Q : Exit → Act → World → Prop} {o : Oper} {c : Call} {b : Builtin} {xs : List Value} {a : Act} {w : World} (ho : o.op = .defer c) (hc : c.callee = .builtin b) (hg : o.guard = none) (hd : o.dst = none) (hx : c.args.toList.map a.eval = xs)
    (h : Q .normal { tmps := a.tmps, defers := defD c b o.type xs :: a.defers } w) : wpList P ops Q [o] a w := by
  have hxa : c.args.map a.eval = xs.toArray := by
    subst hx
    apply Array.ext'
    rw [Array.toList_map]
  unfold wpList
  rw [if_pos (by unfold Region.wanted; rw [hg])]
  refine .inl ?_
  have hrun : (execOp a.eval o).run P w = .ok (.defer (defD c b o.type xs)) w := by
    unfold execOp
    simp only [ho]
    unfold resolve
    simp only [hc, hxa]
    rfl
  unfold Oper.wp
  rw [hrun, Oper.upon_defer, hd]
  exact h

/-! ### The machine -/
theorem step_quit {P : Program} {fr : Frame} {cs : List Frame} {w w' : World} {d : Deferred} {ds : List Deferred} {b : Builtin} {ats : Array TypeId} {T : TypeId} {kc : Array Bool} {v : Value}
    (hm : fr.mode = .returning) (hd : fr.defers = d :: ds) (ht : d.target = .builtin b ats T kc) (hi : (invoke d.target d.args).run P w = .ok (.value v) w') :
    step P (lone fr cs w) = .next (lone { fr with defers := ds } cs w') := by
  obtain ⟨t, a⟩ := d
  simp only at ht hi
  subst ht
  refine step_lone_go ?_
  simp [stepG, unwind, callDeferred, hm, hd, hi]
def quitPost (P : Program) (fn : Func) (R : Ending → World → Prop) : Exit → Act → World → Prop
  | .normal, a, w | .ret, a, w => Leaves P fn a.tmps R a.defers .returning w ∨ ∃ d b ats T kc v w', a.defers = [d] ∧ d.target = .builtin b ats T kc ∧ (invoke d.target d.args).run P w = .ok (.value v) w' ∧ Leaves P fn a.tmps R [] .returning w'
  | .panic chain, a, w => Leaves P fn a.tmps R a.defers (.panicking chain) w
  | .outgrown, _, w => R .outgrown w
  | _, _, _ => False
theorem calls_of_wp_quit {P : Program} {f : FuncId} {fn : Func} {c : Code} {args : Array Value} {w : World} {R : Ending → World → Prop}
    (hf : P.funcs[f]? = some fn) (hb : fn.body = some c)
    (h : c.wp P (quitPost P fn R) { tmps := args ++ Array.replicate (fn.ntmps - args.size) undef, defers := [] } w) : Calls P f args w R := by
  intro cs
  let b : Frame := { (default : Frame) with fn := f, kind := .normal }
  have henter : Frame.enter P f args .normal =
      b.at { tmps := args ++ Array.replicate (fn.ntmps - args.size) undef, defers := [] } [.code c] := by
    simp [Frame.enter, Frame.at, hf, hb, b]
  obtain ⟨e, a', w', hq, harr⟩ := h b [] cs
  rw [← henter] at harr
  have ret : ∀ todo, Steps P (lone (Frame.enter P f args .normal) cs w) (lone { b.at a' todo with mode := .returning } cs w') →
      (Leaves P fn a'.tmps R a'.defers .returning w' ∨ ∃ d bb ats T kc v w2, a'.defers = [d] ∧ d.target = .builtin bb ats T kc ∧ (invoke d.target d.args).run P w' = .ok (.value v) w2 ∧ Leaves P fn a'.tmps R [] .returning w2) →
      ∃ e w' fr', R e w' ∧ Comes P (lone (Frame.enter P f args .normal) cs w) (lone fr' cs w') e ∧ fr'.fn = f ∧ fr'.leaving P w' e := by
    intro todo hs hq
    rcases hq with hq | ⟨d, bb, ats, T, kc, v, w2, hd, ht, hi, hq⟩
    · obtain ⟨e', w'', fr', hR, hs2, hfn, hl⟩ := leaves_steps a'.defers .returning w' { b.at a' todo with mode := .returning } cs rfl rfl rfl hf rfl hq
      exact ⟨e', w'', fr', hR, Comes.of_steps hs hs2, hfn, hl⟩
    · have h1 := step_quit (P := P) (fr := { b.at a' todo with mode := .returning }) (cs := cs) (ds := []) rfl (by show a'.defers = _; exact hd) ht hi
      obtain ⟨e', w'', fr', hR, hs2, hfn, hl⟩ := leaves_steps [] .returning w2 { { b.at a' todo with mode := .returning } with defers := [] } cs rfl rfl rfl hf rfl hq
      exact ⟨e', w'', fr', hR, Comes.of_steps (Steps.trans hs (.one h1)) hs2, hfn, hl⟩
  cases e with
  | normal => exact ret [] (Steps.trans harr (.one step_end)) hq
  | ret =>
    obtain ⟨todo, hs⟩ := harr
    exact ret todo hs hq
  | panic chain =>
    obtain ⟨todo, hs⟩ := harr
    obtain ⟨e', w'', fr', hR, hs2, hfn, hl⟩ := leaves_steps a'.defers (.panicking chain) w' { b.at a' todo with mode := .panicking chain } cs rfl rfl rfl hf rfl hq
    exact ⟨e', w'', fr', hR, Comes.of_steps hs hs2, hfn, hl⟩
  | exit id => exact hq.elim
  | goto l => exact hq.elim
  | outgrown => exact ⟨.outgrown, w', b, hq, harr.resolve_left (by simp [b]), rfl, trivial⟩

theorem early_quit {P : Program} {fn : Func} {R : Ending → World → Prop} {e : Exit} {a : Act} {w : World} (h : bodyPostD P fn R e a w) : quitPost P fn R e a w := by
  cases e with
  | normal => exact .inl h
  | ret => exact .inl h
  | panic c => exact h
  | outgrown => exact h
  | exit n => exact h
  | goto l => exact h
theorem late_quit {P : Program} {fn : Func} {ρ : List Loc} {S : Nat → Prop} {H : List Ent} {w : World} {K : Out → List Ent → Prop} {d : Deferred} {b : Builtin} {ats : Array TypeId} {T : TypeId} {kc : Array Bool} (ht : d.target = .builtin b ats T kc) {e : Exit} {a : Act} {w' : World}
    (h : Post ρ S H w [d] (endQ P fn.results.toList K d) e a w') : quitPost P fn (EndF ρ S H w K) e a w' := by
  obtain ⟨ρ1, S1, s1, H1, ex, hs1, hev, hr1, hd, hex, hK⟩ := h
  have fin : RelS ρ1 s1 a.tmps.toList → QuitW P d H1 (fun H' => resK P fn.results.toList s1 H' fun out => K out H') → ∃ d b ats T kc v w2, a.defers = [d] ∧ d.target = .builtin b ats T kc ∧ (invoke d.target d.args).run P w' = .ok (.value v) w2 ∧ Leaves P fn a.tmps (EndF ρ S H w K) [] .returning w2 := fun hr2 ⟨H2, hK2, hrun⟩ => by
    obtain ⟨v, w2, h1, hs2, hev2⟩ := hrun ρ1 S1 w' hs1
    obtain ⟨out, hK3, hres⟩ := resK_sound hK2
    obtain ⟨x, hx, hox⟩ := hres ρ1 S1 w2 a.tmps hs2 hr2
    exact ⟨d, b, ats, T, kc, v, w2, hd, ht, h1, x, hx, ρ1, S1, H2, out, hs2, hev.trans hev2, hox, hK3⟩
  cases ex with
  | normal =>
    cases e <;> first | exact hex.elim | skip
    exact .inr (fin hr1 hK)
  | ret =>
    cases e <;> first | exact hex.elim | skip
    exact .inr (fin hr1 hK)
  | exit n => exact hK.elim
  | pan ch => exact hK.elim
/-- Calls of a function that, behind some statements, defers a builtin function. -/
theorem spec_of_quit {P : Program} (hm : P.follows .mixedOrders = true) {f : FuncId} {fn : Func} (l : List Code) {e : Code} {id : Nat} {ops : Array Oper} (l1 : List Oper) (o : Oper) (hf : P.funcs[f]? = some fn) (hn : (fn.name == "runtime.NumGoroutine") = false)
    (hb : fn.body = some (seqsC l ((Code.region id ops false).seq e))) (ho : ops.toList = l1 ++ [o]) {args : List AV} (hl : Nat.ble args.length fn.ntmps = true) {H : List Ent} {K : Out → List Ent → Prop}
    (h : initK fn.ntmps args fun s => execLs P (endK P fn.results.toList K) (fun s H => execOps P ops l1 s H (endOp o fun d s H => exec P e s H (endQ P fn.results.toList K d))) l s H) : SpecH P f args H K := by
  refine ⟨⟨fn, hf, hn, by rw [hb]; rfl⟩, fun ρ S w vs hs hr => ?_⟩
  have hvl := RelS_len hr
  obtain ⟨s0, h, hs0⟩ := initK_rel h (Nat.le_of_ble_eq_true hl)
  have hinit : RelS ρ s0 (vs.toArray ++ Array.replicate (fn.ntmps - vs.toArray.size) undef).toList := by
    have := hs0 ρ vs hr
    simpa [hvl] using this
  refine calls_of_wp_quit hf hb ?_
  -- the statements ahead of the defer
  have go : ∀ (l : List Code) (s1 : List AV) (H1 : List Ent) (ρ1 : List Loc) (S1 : Nat → Prop) (w1 : World) (a1 : Act), execLs P (endK P fn.results.toList K) (fun s H => execOps P ops l1 s H (endOp o fun d s H => exec P e s H (endQ P fn.results.toList K d))) l s1 H1 →
      Sat ρ1 S1 H1 w1 → Ev ρ S H w ρ1 S1 H1 w1 → RelS ρ1 s1 a1.tmps.toList → a1.defers = [] → (seqsC l ((Code.region id ops false).seq e)).wp P (quitPost P fn (EndF ρ S H w K)) a1 w1 := by
    intro l
    induction l with
    | nil =>
      intro s1 H1 ρ1 S1 w1 a1 hx hs1 hev hrel hdf
      refine wp_seq (wp_region_list ?_)
      rw [ho]
      refine wpList_app [o] l1 a1 w1 (wpList_mono (fun ee a' w' hp => ?_) _ _ _ (execOps_sound l1 s1 H1 hx ρ1 S1 w1 a1 hs1 hrel))
      obtain ⟨ρ2, S2, s2, H2, ex, hs2, hev2, hr2, hd2, hex, hK2⟩ := hp
      rw [hdf] at hd2
      unfold endOp at hK2
      split at hK2
      · rename_i c hoc
        cases ee <;> first | exact hex.elim | skip
        split at hK2
        · rename_i b xs hcb hxs
          obtain ⟨hg, hdst, hK2⟩ := hK2
          have hargs : c.args.toList.map a'.eval = xs := plainS_rel hxs (opvs_rel hr2 c.args.toList)
          refine wpList_defer hoc hcb hg hdst hargs ?_
          rw [hd2]
          refine wp_mono (exec_sound hm e s2 H2 _ hK2 ρ2 S2 w' ⟨a'.tmps, [defD c b o.type xs]⟩ hs2 hr2) fun ee2 a2 w2 hp2 => late_quit (d := defD c b o.type xs) rfl (hp2.from (hev.trans hev2))
        · exact hK2.elim
      · exact hK2.elim
    | cons x l ih =>
      intro s1 H1 ρ1 S1 w1 a1 hx hs1 hev hrel hdf
      refine wp_seq (wp_mono (exec_sound hm x s1 H1 _ hx ρ1 S1 w1 a1 hs1 hrel) fun ee a' w' hp => ?_)
      obtain ⟨ρ2, S2, s2, H2, ex, hs2, hev2, hr2, hd2, hex, hK2⟩ := hp
      rw [hdf] at hd2
      cases ex with
      | normal =>
        cases ee <;> first | exact hex.elim | skip
        exact ih s2 H2 ρ2 S2 w' a' hK2 hs2 (hev.trans hev2) hr2 hd2
      | exit n => cases ee <;> first | exact hex.elim | exact early_quit (early_end (P := P) (fn := fn) (K := K) ⟨ρ2, S2, s2, H2, .exit n, hs2, hev.trans hev2, hr2, hd2, hex, hK2⟩)
      | ret => cases ee <;> first | exact hex.elim | exact early_quit (early_end (P := P) (fn := fn) (K := K) ⟨ρ2, S2, s2, H2, .ret, hs2, hev.trans hev2, hr2, hd2, hex, hK2⟩)
      | pan n => cases ee <;> first | exact hex.elim | exact early_quit (early_end (P := P) (fn := fn) (K := K) ⟨ρ2, S2, s2, H2, .pan n, hs2, hev.trans hev2, hr2, hd2, hex, hK2⟩)
  exact go l s0 H ρ S w ⟨_, []⟩ h hs (Ev.refl _ _ _ _) hinit rfl

/-! ### delete -/
theorem KeysAre.erase {α : Type} [DecidableEq α] {enc : α → Value} {es : List MapEntry} {R : List (α × Value)} (h : KeysAre enc es R) (j : Nat) : KeysAre enc (es.eraseIdx j) (R.eraseIdx j) := by
  unfold KeysAre at *
  have em : ∀ {α β : Type} (f : α → β) (l : List α) (j : Nat), (l.eraseIdx j).map f = (l.map f).eraseIdx j := fun f l => by
    induction l with
    | nil => intro j; rfl
    | cons x l ih =>
      intro j
      cases j with
      | zero => rfl
      | succ j => simp only [List.eraseIdx_cons_succ, List.map_cons, ih]
  rw [em, em, h]
theorem QuitW.del {P : Program} {H : List Ent} {K : List Ent → Prop} {T mt kt et : TypeId} {c : Call} {b cl : Nat} {es : Array MapEntry} {α : Type} [DecidableEq α] {enc : α → Value} {p : α} (i : Nat) (R : List (α × Value)) {j : Nat} {v : Value} (hc : c.argTypes[0]? = some mt) (ht : P.underlying mt = some (.map kt et)) (hkt : KeyT P kt enc)
    (hi : nthE H i = some (.mp b es cl)) (hf : KeysAre enc es.toList R) (hs : seek p R 0 = some (j, v)) (next : ∀ es' : Array MapEntry, KeysAre enc es'.toList (R.eraseIdx j) → setEK H i (.mp b es' cl) K) : QuitW P (defD c .delete T [.map (some b), enc p]) H K := by
  rw [nthE_eq] at hi
  have hlen : es.size = R.length := by
    have := congrArg List.length hf
    simpa using this
  have hes : (es.eraseIdxIfInBounds j).toList = es.toList.eraseIdx j := by simp
  obtain ⟨_, hk⟩ := setEK_spec (next (es.eraseIdxIfInBounds j) (by rw [hes]; exact hf.erase j))
  refine ⟨_, hk, fun ρ S w hS => ?_⟩
  have hb : w.heap[b]? = some (.map es cl) := hS.ent i _ hi
  have hbl : b < w.heap.size := (Array.getElem?_eq_some_iff.1 hb).1
  have hrun : (Builtin.delete_ c.argTypes T #[.map (some b), enc p]).run P w = .ok (.tuple #[]) { w with heap := w.heap.setIfInBounds b (.map (es.eraseIdxIfInBounds j) cl) } := by
    have hfd := hkt.find w p es.toList R hf
    rw [hs] at hfd
    simp [Builtin.delete_, hc, run_underlying ht, MapKept.run_getObj_map hb, hkt.check w es.isEmpty p, hfd, MapKept.run_setObj_map _ hb, Result.andThen]
  have hS2 := hS.setG (e' := .mp b (es.eraseIdxIfInBounds j) cl) (c := b) (w' := { w with heap := w.heap.setIfInBounds b (.map (es.eraseIdxIfInBounds j) cl) }) hi rfl (by simp) (fun j _ hne => by simp [Ne.symm hne]) rfl rfl rfl (fun _ hc => .inl (Option.some.inj hc).symm) (by show (w.heap.setIfInBounds b _)[b]? = _; simp [hbl])
  refine ⟨.tuple #[], _, ?_, hS2.1, hS2.2⟩
  show (invoke (.builtin .delete c.argTypes T _) #[.map (some b), enc p]).run P w = _
  unfold invoke
  show (builtin .delete c.argTypes T _ #[.map (some b), enc p]).run P w = _
  rw [show builtin .delete c.argTypes T (c.args.map fun | .const _ => true | _ => false) #[.map (some b), enc p] = (do pure (.value (← Builtin.delete_ c.argTypes T #[.map (some b), enc p]))) from rfl]
  simp only [Sem.run_bind, hrun, Result.andThen_ok, Sem.run_pure]
end Go.AX

/-
  Contracts: cmp.Compare, strings.Compare, cmp.Or.
-/
namespace Go.Core
theorem compareInt_eq (x y : Int) : Lib.compareInt x y = sgn x y := by
  unfold Lib.compareInt sgn
  rfl
theorem compareBytes_eq : ∀ a b : List UInt8, Lib.compareBytes a b = tcmp a b
  | [], [] => rfl
  | [], _ :: _ => rfl
  | _ :: _, [] => rfl
  | a :: l, b :: m => by
    unfold Lib.compareBytes tcmp
    have h1 : (a < b) ↔ ((a.toNat : Int) < (b.toNat : Int)) := by rw [UInt8.lt_iff_toNat_lt]; omega
    have h2 : (b < a) ↔ ((b.toNat : Int) < (a.toNat : Int)) := by rw [UInt8.lt_iff_toNat_lt]; omega
    unfold sgn
    by_cases h3 : a < b
    · rw [if_pos h3, if_pos (h1.1 h3), if_neg (by decide)]
    · rw [if_neg h3, if_neg (fun h => h3 (h1.2 h))]
      by_cases h4 : b < a
      · rw [if_pos h4, if_pos (h2.1 h4), if_neg (by decide)]
      · rw [if_neg h4, if_neg (fun h => h4 (h2.2 h)), if_pos rfl, compareBytes_eq l m]
end Go.Core
namespace Go.Proofs.YtahjbnfbilkbcaaGreatDoor
open Go.AX Go.RowKit Go.Core
set_option maxRecDepth 20000

theorem cmpInt_c (x y : Int) : ∀ H, SpecH Tryz.prog 64 (pvs [.int .i64 x, .int .i64 y]) H (Ret (.int .i64 (sgn x y)) H) := fun H =>
  SpecH.rawP (R := fun r => r = .int .i64 (sgn x y)) (callOk Tryz.func64 (by kernel_rfl) rfl) (fun w _ => (Tryz.cmp_Compare_int x y w).mono fun e w' ⟨he, hw⟩ => by
    subst hw
    rw [compareInt_eq] at he
    exact ⟨_, he, rfl, Below.refl _ _⟩) fun r hr => by subst hr; exact ⟨rfl, rfl⟩
theorem cmpTxt_c (x y : List UInt8) : ∀ H, SpecH Tryz.prog 65 (pvs [.string (bs x), .string (bs y)]) H (Ret (.int .i64 (tcmp x y)) H) := fun H =>
  SpecH.rawP (R := fun r => r = .int .i64 (tcmp x y)) (callOk Tryz.func65 (by kernel_rfl) rfl) (fun w _ => (Tryz.strings_Compare (bs x) (bs y) w).mono fun e w' ⟨he, hw⟩ => by
    subst hw
    rw [bs_list, bs_list, compareBytes_eq] at he
    exact ⟨_, he, rfl, Below.refl _ _⟩) fun r hr => by subst hr; exact ⟨rfl, rfl⟩
set_option maxHeartbeats 1000000 in
theorem Or_c (a : Option Addr) (x y : Int) (ha : a.isSome = true) : ∀ H, (∀ w, Facts H w → SlAt a 2 [.int .i64 x, .int .i64 y] w) → SpecH Tryz.prog 63 (pvs [.slice a 2 2]) H (Ret (.int .i64 (if x = 0 then y else x)) H) := by
  refine factC hm Tryz.func63 (by kernel_rfl) rfl rfl ?_
  (first | refine wX ?_ | exact wZ)
  refine LoopN.unroll 3 ?_
  (first | refine wX ?_ | exact wZ)
  refine Nd.mk ⟨ha, by decide, by decide⟩ ?_
  (first | refine wX ?_ | exact wZ)
  refine LdN.one (.int .i64 x) rfl (fun w hw => hw.1) rfl ?_
  (first | refine wX ?_ | exact wZ)
  refine brd_ne (fun h1 => ?_) (fun h1 => ?_)
  · rw [if_neg h1]
    (first | refine wX ?_ | exact wZ)
  rw [if_pos h1]
  (first | refine wX ?_ | exact wZ)
  refine Nd.mk ⟨ha, by decide, by decide⟩ ?_
  (first | refine wX ?_ | exact wZ)
  refine LdN.one (.int .i64 y) rfl (fun w hw => hw.1) rfl ?_
  (first | refine wX ?_ | exact wZ)
  refine brd_ne (fun h2 => ?_) (fun h2 => ?_)
  · (first | refine wX ?_ | exact wZ)
  · (first | refine wX ?_ | exact wZ)
    rw [h2]
end Go.Proofs.YtahjbnfbilkbcaaGreatDoor
