/-
  Lemmas (W4 W5 U2 U3 W6 U4).
-/
import Derived.Lib.ItoaLen
import Derived.Lib.AppendIntMem
import Derived.Test.YtahjbnfbilkbcaaGreatDoorTxt9
/-
  Contract: the writer writes its first cell (program).
-/
namespace Go.Proofs.YtahjbnfbilkbcaaGreatDoor
open Go.AX Go.RowKit Go.Core Go.Scan
set_option maxRecDepth 20000

set_option maxHeartbeats 8000000 in
theorem write_f {a : Option Addr} (ca : Nat) {l : List CellP} {E : World → Prop} {qt : List UInt8 → List UInt8} {it : Int → List UInt8} (V : WEnv a l E qt it) (m : Nat) (hn : m + 1 ≤ 600) (out : List UInt8) (way : List Int) (i j : BSt) (u : Nat) (hi : i.ok out.length) (hj : j.ok way.length) (hu : u < l.length) (hw : way.Nodup) (hr : ∀ x ∈ way, 0 ≤ x ∧ x < (l.length : Int)) (hf : l.length + 2 ≤ m + 1 + way.length) (hM : ¬ 20000 < out.length) :
    SpecH Tryz.prog 51 [.c (.lp 0 0), .c (.v (.int .i64 (u : Int)))] (wH (.slice a l.length ca) (gF a l E) false out i way j) (wR (.slice a l.length ca) (gF a l E) way (writeS 20000 (leafS qt it) (l.map (·.c)) (m + 1) out way u)) := by
  have ih := write_t ca V m
  obtain ⟨p, hp⟩ : ∃ p, l[u]? = some p := ⟨_, List.getElem?_eq_getElem hu⟩
  have hpm := List.mem_of_getElem? hp
  have hsa : a.isSome = true := by
    have := V.ha
    cases a with
    | none => rw [this rfl] at hp; cases hp
    | some b => rfl
  have hat : at_ (l.map (·.c)) (u : Int) = p.c := at_map hp
  have hcd : cellD l.length p.c = true := by
    have := V.val.2.1 p.c (List.mem_map.2 ⟨p, hpm, rfl⟩)
    simpa using this
  have hpo := V.ok p hpm
  have hps := V.sm.2 p hpm
  have hsml := V.sm.1
  have hq4 := V.q p hpm
  have hit := V.i p hpm
  have hql := V.ql
  have hil3 := V.il
  have hsh := V.short
  have htx := cellD_text hcd
  have hk := cellD_kind hcd
  have hwl := way_le hw hr
  obtain ⟨⟨kind, num, text, names, items⟩, na, nc, ia, ic⟩ := p
  simp only at hat hcd hps hq4 hit hk htx
  have hkk : kind = 0 ∨ kind = 1 ∨ kind = 2 ∨ kind = 3 ∨ kind = 4 ∨ kind = 5 ∨ kind = 6 ∨ kind = 7 ∨ kind = 8 := by omega
  rcases hkk with rfl | rfl | rfl | rfl | rfl | rfl | rfl | rfl | rfl
  · -- [110, 105, 108]: the text of the leaf, 0: the kind
    have hwr : writeS 20000 (leafS qt it) (l.map (·.c)) (m + 1) out way u = out ++ ([110, 105, 108]) := by
      unfold writeS
      rw [if_neg hM, hat, if_pos (show isLeaf (Cell.mk 0 num text names items) = true from rfl)]
      rfl
    rw [hwr]
    -- 0: the kind
    refine ownC hm Tryz.func51 (by kernel_rfl) rfl rfl (fun _ _ => wH_ok _ _ _ _ _ _ _) (fun _ _ => Nat.le_refl _) ?_
    (first | refine wX ?_ | exact wZ)
    refine callG (Len_w _ _ way j false out i) [0, 1, 2, 3] rfl ⟨rfl, rfl, rfl, rfl, trivial⟩ rfl fun _ _ => ?_
    (first | refine wX ?_ | exact wZ)
    refine brd_dec (fun h => absurd h (by omega)) (fun _ => ?_)
    (first | refine wX ?_ | exact wZ)
    refine Nd.mk ⟨hsa, by omega, by omega⟩ ?_
    (first | refine wX ?_ | exact wZ)
    refine LdN.agg [.int .i64 0, .int .i64 num, .string (bs text), .slice na names.length nc, .slice ia items.length ic] rfl (fun w hw => hw.2.2.1.1.1) rfl (fun k hk => by rw [Int.toNat_natCast]; exact grC_get l u k hk hp) ?_
    ((conv => whnf); (repeat ((first | refine BoxN.own ?_ | refine RwN.own ?_ | refine VrN.norm (wrap_i64 (by omega)) ?_ | refine VrN.keep ?_ | refine Nd.mk (by decide +kernel) ?_ | refine Nd.mk (by omega) ?_ | (refine Nd.mk ?_ ?_; focus ((repeat' (first | exact trivial | exact wkE_refl _ | refine And.intro ?_ ?_)); done)) | refine RdN.intro _ rfl (by rfl) ?_); (conv => whnf))))
    -- [110, 105, 108]: the text of the leaf
    refine callG (WriteString_w _ _ way j false out ([110, 105, 108]) i hi (by first | omega | (simp; omega))) [0, 1, 2, 3] rfl ⟨rfl, rfl, rfl, rfl, trivial⟩ rfl fun i2 hi2 => ?_
    (first | refine wX ?_ | exact wZ)
    exact ⟨(i2, j), ⟨hi2, hj⟩, rfl, by (repeat' (first | exact trivial | exact wkE_refl _ | refine And.intro ?_ ?_))⟩
  · -- [116, 114, 117, 101]: the text of the leaf, 1: the kind
    have hwr : writeS 20000 (leafS qt it) (l.map (·.c)) (m + 1) out way u = out ++ ([116, 114, 117, 101]) := by
      unfold writeS
      rw [if_neg hM, hat, if_pos (show isLeaf (Cell.mk 1 num text names items) = true from rfl)]
      rfl
    rw [hwr]
    -- 1: the kind
    refine ownC hm Tryz.func51 (by kernel_rfl) rfl rfl (fun _ _ => wH_ok _ _ _ _ _ _ _) (fun _ _ => Nat.le_refl _) ?_
    (first | refine wX ?_ | exact wZ)
    refine callG (Len_w _ _ way j false out i) [0, 1, 2, 3] rfl ⟨rfl, rfl, rfl, rfl, trivial⟩ rfl fun _ _ => ?_
    (first | refine wX ?_ | exact wZ)
    refine brd_dec (fun h => absurd h (by omega)) (fun _ => ?_)
    (first | refine wX ?_ | exact wZ)
    refine Nd.mk ⟨hsa, by omega, by omega⟩ ?_
    (first | refine wX ?_ | exact wZ)
    refine LdN.agg [.int .i64 1, .int .i64 num, .string (bs text), .slice na names.length nc, .slice ia items.length ic] rfl (fun w hw => hw.2.2.1.1.1) rfl (fun k hk => by rw [Int.toNat_natCast]; exact grC_get l u k hk hp) ?_
    ((conv => whnf); (repeat ((first | refine BoxN.own ?_ | refine RwN.own ?_ | refine VrN.norm (wrap_i64 (by omega)) ?_ | refine VrN.keep ?_ | refine Nd.mk (by decide +kernel) ?_ | refine Nd.mk (by omega) ?_ | (refine Nd.mk ?_ ?_; focus ((repeat' (first | exact trivial | exact wkE_refl _ | refine And.intro ?_ ?_)); done)) | refine RdN.intro _ rfl (by rfl) ?_); (conv => whnf))))
    -- true: which, [116, 114, 117, 101]: the text
    refine DrawN.planQ [0, 3] [1, 2, 4, 5, 6] [(7, 0)] (by decide +kernel) ?_
    (first | refine wX ?_ | exact wZ)
    refine callQ (FormatBool_c true ([116, 114, 117, 101]) (by decide) _) ?_
    (first | refine wX ?_ | exact wZ)
    -- [116, 114, 117, 101]: the text of the leaf
    refine callG (WriteString_w _ _ way j false out ([116, 114, 117, 101]) i hi (by first | omega | (simp; omega))) [0, 1, 2, 3] rfl ⟨rfl, rfl, rfl, rfl, trivial⟩ rfl fun i2 hi2 => ?_
    (first | refine wX ?_ | exact wZ)
    exact ⟨(i2, j), ⟨hi2, hj⟩, rfl, by (repeat' (first | exact trivial | exact wkE_refl _ | refine And.intro ?_ ?_))⟩
  · -- [102, 97, 108, 115, 101]: the text of the leaf, 2: the kind
    have hwr : writeS 20000 (leafS qt it) (l.map (·.c)) (m + 1) out way u = out ++ ([102, 97, 108, 115, 101]) := by
      unfold writeS
      rw [if_neg hM, hat, if_pos (show isLeaf (Cell.mk 2 num text names items) = true from rfl)]
      rfl
    rw [hwr]
    -- 2: the kind
    refine ownC hm Tryz.func51 (by kernel_rfl) rfl rfl (fun _ _ => wH_ok _ _ _ _ _ _ _) (fun _ _ => Nat.le_refl _) ?_
    (first | refine wX ?_ | exact wZ)
    refine callG (Len_w _ _ way j false out i) [0, 1, 2, 3] rfl ⟨rfl, rfl, rfl, rfl, trivial⟩ rfl fun _ _ => ?_
    (first | refine wX ?_ | exact wZ)
    refine brd_dec (fun h => absurd h (by omega)) (fun _ => ?_)
    (first | refine wX ?_ | exact wZ)
    refine Nd.mk ⟨hsa, by omega, by omega⟩ ?_
    (first | refine wX ?_ | exact wZ)
    refine LdN.agg [.int .i64 2, .int .i64 num, .string (bs text), .slice na names.length nc, .slice ia items.length ic] rfl (fun w hw => hw.2.2.1.1.1) rfl (fun k hk => by rw [Int.toNat_natCast]; exact grC_get l u k hk hp) ?_
    ((conv => whnf); (repeat ((first | refine BoxN.own ?_ | refine RwN.own ?_ | refine VrN.norm (wrap_i64 (by omega)) ?_ | refine VrN.keep ?_ | refine Nd.mk (by decide +kernel) ?_ | refine Nd.mk (by omega) ?_ | (refine Nd.mk ?_ ?_; focus ((repeat' (first | exact trivial | exact wkE_refl _ | refine And.intro ?_ ?_)); done)) | refine RdN.intro _ rfl (by rfl) ?_); (conv => whnf))))
    -- false: which, [102, 97, 108, 115, 101]: the text
    refine DrawN.planQ [0, 3] [1, 2, 4, 5, 6] [(7, 0)] (by decide +kernel) ?_
    (first | refine wX ?_ | exact wZ)
    refine callQ (FormatBool_c false ([102, 97, 108, 115, 101]) (by decide) _) ?_
    (first | refine wX ?_ | exact wZ)
    -- [102, 97, 108, 115, 101]: the text of the leaf
    refine callG (WriteString_w _ _ way j false out ([102, 97, 108, 115, 101]) i hi (by first | omega | (simp; omega))) [0, 1, 2, 3] rfl ⟨rfl, rfl, rfl, rfl, trivial⟩ rfl fun i2 hi2 => ?_
    (first | refine wX ?_ | exact wZ)
    exact ⟨(i2, j), ⟨hi2, hj⟩, rfl, by (repeat' (first | exact trivial | exact wkE_refl _ | refine And.intro ?_ ?_))⟩
  · -- it num: the text of the leaf, 3: the kind
    have hwr : writeS 20000 (leafS qt it) (l.map (·.c)) (m + 1) out way u = out ++ (it num) := by
      unfold writeS
      rw [if_neg hM, hat, if_pos (show isLeaf (Cell.mk 3 num text names items) = true from rfl)]
      rfl
    rw [hwr]
    -- 3: the kind
    refine ownC hm Tryz.func51 (by kernel_rfl) rfl rfl (fun _ _ => wH_ok _ _ _ _ _ _ _) (fun _ _ => Nat.le_refl _) ?_
    (first | refine wX ?_ | exact wZ)
    refine callG (Len_w _ _ way j false out i) [0, 1, 2, 3] rfl ⟨rfl, rfl, rfl, rfl, trivial⟩ rfl fun _ _ => ?_
    (first | refine wX ?_ | exact wZ)
    refine brd_dec (fun h => absurd h (by omega)) (fun _ => ?_)
    (first | refine wX ?_ | exact wZ)
    refine Nd.mk ⟨hsa, by omega, by omega⟩ ?_
    (first | refine wX ?_ | exact wZ)
    refine LdN.agg [.int .i64 3, .int .i64 num, .string (bs text), .slice na names.length nc, .slice ia items.length ic] rfl (fun w hw => hw.2.2.1.1.1) rfl (fun k hk => by rw [Int.toNat_natCast]; exact grC_get l u k hk hp) ?_
    ((conv => whnf); (repeat ((first | refine BoxN.own ?_ | refine RwN.own ?_ | refine VrN.norm (wrap_i64 (by omega)) ?_ | refine VrN.keep ?_ | refine Nd.mk (by decide +kernel) ?_ | refine Nd.mk (by omega) ?_ | (refine Nd.mk ?_ ?_; focus ((repeat' (first | exact trivial | exact wkE_refl _ | refine And.intro ?_ ?_)); done)) | refine RdN.intro _ rfl (by rfl) ?_); (conv => whnf))))
    refine DrawN.planQ [0, 3] [1, 2, 4, 5] [(6, 0)] (by decide +kernel) ?_
    (first | refine wX ?_ | exact wZ)
    refine callQ (hit rfl _ (fun w hw => hw.2.2.1.2)) ?_
    (first | refine wX ?_ | exact wZ)
    have := hil3 num
    -- it num: the text of the leaf
    refine callG (WriteString_w _ _ way j false out (it num) i hi (by first | omega | (simp; omega))) [0, 1, 2, 3] rfl ⟨rfl, rfl, rfl, rfl, trivial⟩ rfl fun i2 hi2 => ?_
    (first | refine wX ?_ | exact wZ)
    exact ⟨(i2, j), ⟨hi2, hj⟩, rfl, by (repeat' (first | exact trivial | exact wkE_refl _ | refine And.intro ?_ ?_))⟩
  · -- [34] ++ qt text ++ [34]: the text of the leaf, 4: the kind
    have hwr : writeS 20000 (leafS qt it) (l.map (·.c)) (m + 1) out way u = out ++ ([34] ++ qt text ++ [34]) := by
      unfold writeS
      rw [if_neg hM, hat, if_pos (show isLeaf (Cell.mk 4 num text names items) = true from rfl)]
      rfl
    rw [hwr]
    -- 4: the kind
    refine ownC hm Tryz.func51 (by kernel_rfl) rfl rfl (fun _ _ => wH_ok _ _ _ _ _ _ _) (fun _ _ => Nat.le_refl _) ?_
    (first | refine wX ?_ | exact wZ)
    refine callG (Len_w _ _ way j false out i) [0, 1, 2, 3] rfl ⟨rfl, rfl, rfl, rfl, trivial⟩ rfl fun _ _ => ?_
    (first | refine wX ?_ | exact wZ)
    refine brd_dec (fun h => absurd h (by omega)) (fun _ => ?_)
    (first | refine wX ?_ | exact wZ)
    refine Nd.mk ⟨hsa, by omega, by omega⟩ ?_
    (first | refine wX ?_ | exact wZ)
    refine LdN.agg [.int .i64 4, .int .i64 num, .string (bs text), .slice na names.length nc, .slice ia items.length ic] rfl (fun w hw => hw.2.2.1.1.1) rfl (fun k hk => by rw [Int.toNat_natCast]; exact grC_get l u k hk hp) ?_
    ((conv => whnf); (repeat ((first | refine BoxN.own ?_ | refine RwN.own ?_ | refine VrN.norm (wrap_i64 (by omega)) ?_ | refine VrN.keep ?_ | refine Nd.mk (by decide +kernel) ?_ | refine Nd.mk (by omega) ?_ | (refine Nd.mk ?_ ?_; focus ((repeat' (first | exact trivial | exact wkE_refl _ | refine And.intro ?_ ?_)); done)) | refine RdN.intro _ rfl (by rfl) ?_); (conv => whnf))))
    refine DrawN.planQ [0, 3] [1, 2, 4, 5, 6, 7] [(8, 0)] (by decide +kernel) ?_
    (first | refine wX ?_ | exact wZ)
    refine callQ (hq4 rfl _) ?_
    (first | refine wX ?_ | exact wZ)
    have hq1 := hql text
    refine Nd.mk (by show 1 + (bs (qt text)).size < _; rw [bs_size]; omega) ?_
    (first | refine wX ?_ | exact wZ)
    rw [show (({ data := #[34] } : ByteArray) ++ bs (qt text)) = bs ([34] ++ qt text) by rw [← bs_app]; rfl]
    refine Nd.mk (by show (bs ([34] ++ qt text)).size + 1 < _; rw [bs_size]; simp; omega) ?_
    rw [show (bs ([34] ++ qt text) ++ ({ data := #[34] } : ByteArray)) = bs ([34] ++ qt text ++ [34]) by rw [← bs_app]; rfl]
    (first | refine wX ?_ | exact wZ)
    -- [34] ++ qt text ++ [34]: the text of the leaf
    refine callG (WriteString_w _ _ way j false out ([34] ++ qt text ++ [34]) i hi (by first | omega | (simp; omega))) [0, 1, 2, 3] rfl ⟨rfl, rfl, rfl, rfl, trivial⟩ rfl fun i2 hi2 => ?_
    (first | refine wX ?_ | exact wZ)
    exact ⟨(i2, j), ⟨hi2, hj⟩, rfl, by (repeat' (first | exact trivial | exact wkE_refl _ | refine And.intro ?_ ?_))⟩
  · -- [58] ++ text: the text of the leaf, 5: the kind
    have hwr : writeS 20000 (leafS qt it) (l.map (·.c)) (m + 1) out way u = out ++ ([58] ++ text) := by
      unfold writeS
      rw [if_neg hM, hat, if_pos (show isLeaf (Cell.mk 5 num text names items) = true from rfl)]
      rfl
    rw [hwr]
    -- 5: the kind
    refine ownC hm Tryz.func51 (by kernel_rfl) rfl rfl (fun _ _ => wH_ok _ _ _ _ _ _ _) (fun _ _ => Nat.le_refl _) ?_
    (first | refine wX ?_ | exact wZ)
    refine callG (Len_w _ _ way j false out i) [0, 1, 2, 3] rfl ⟨rfl, rfl, rfl, rfl, trivial⟩ rfl fun _ _ => ?_
    (first | refine wX ?_ | exact wZ)
    refine brd_dec (fun h => absurd h (by omega)) (fun _ => ?_)
    (first | refine wX ?_ | exact wZ)
    refine Nd.mk ⟨hsa, by omega, by omega⟩ ?_
    (first | refine wX ?_ | exact wZ)
    refine LdN.agg [.int .i64 5, .int .i64 num, .string (bs text), .slice na names.length nc, .slice ia items.length ic] rfl (fun w hw => hw.2.2.1.1.1) rfl (fun k hk => by rw [Int.toNat_natCast]; exact grC_get l u k hk hp) ?_
    ((conv => whnf); (repeat ((first | refine BoxN.own ?_ | refine RwN.own ?_ | refine VrN.norm (wrap_i64 (by omega)) ?_ | refine VrN.keep ?_ | refine Nd.mk (by decide +kernel) ?_ | refine Nd.mk (by omega) ?_ | (refine Nd.mk ?_ ?_; focus ((repeat' (first | exact trivial | exact wkE_refl _ | refine And.intro ?_ ?_)); done)) | refine RdN.intro _ rfl (by rfl) ?_); (conv => whnf))))
    refine DrawN.planQ [0, 3] [1, 2, 4, 5] [(6, 0)] (by decide +kernel) ?_
    (first | refine wX ?_ | exact wZ)
    refine Nd.mk (by show 1 + (bs text).size < _; rw [bs_size]; omega) ?_
    rw [show (({ data := #[58] } : ByteArray) ++ bs text) = bs ([58] ++ text) by rw [← bs_app]; rfl]
    (first | refine wX ?_ | exact wZ)
    -- [58] ++ text: the text of the leaf
    refine callG (WriteString_w _ _ way j false out ([58] ++ text) i hi (by first | omega | (simp; omega))) [0, 1, 2, 3] rfl ⟨rfl, rfl, rfl, rfl, trivial⟩ rfl fun i2 hi2 => ?_
    (first | refine wX ?_ | exact wZ)
    exact ⟨(i2, j), ⟨hi2, hj⟩, rfl, by (repeat' (first | exact trivial | exact wkE_refl _ | refine And.intro ?_ ?_))⟩
  · -- 6: the kind
    rw [writeS_in hM hat (fun h => absurd (of_decide_eq_true h) (by show ¬ (6 : Int) ≤ 5; decide))]
    -- 6: the kind
    refine ownC hm Tryz.func51 (by kernel_rfl) rfl rfl (fun _ _ => wH_ok _ _ _ _ _ _ _) (fun _ _ => Nat.le_refl _) ?_
    (first | refine wX ?_ | exact wZ)
    refine callG (Len_w _ _ way j false out i) [0, 1, 2, 3] rfl ⟨rfl, rfl, rfl, rfl, trivial⟩ rfl fun _ _ => ?_
    (first | refine wX ?_ | exact wZ)
    refine brd_dec (fun h => absurd h (by omega)) (fun _ => ?_)
    (first | refine wX ?_ | exact wZ)
    refine Nd.mk ⟨hsa, by omega, by omega⟩ ?_
    (first | refine wX ?_ | exact wZ)
    refine LdN.agg [.int .i64 6, .int .i64 num, .string (bs text), .slice na names.length nc, .slice ia items.length ic] rfl (fun w hw => hw.2.2.1.1.1) rfl (fun k hk => by rw [Int.toNat_natCast]; exact grC_get l u k hk hp) ?_
    ((conv => whnf); (repeat ((first | refine BoxN.own ?_ | refine RwN.own ?_ | refine VrN.norm (wrap_i64 (by omega)) ?_ | refine VrN.keep ?_ | refine Nd.mk (by decide +kernel) ?_ | refine Nd.mk (by omega) ?_ | (refine Nd.mk ?_ ?_; focus ((repeat' (first | exact trivial | exact wkE_refl _ | refine And.intro ?_ ?_)); done)) | refine RdN.intro _ rfl (by rfl) ?_); (conv => whnf))))
    refine spec_of_exec hm Tryz.func99 (by kernel_rfl) rfl rfl ?_
    ((conv => whnf); (repeat ((first | refine BoxN.own ?_ | refine RwN.own ?_ | refine VrN.norm (wrap_i64 (by omega)) ?_ | refine VrN.keep ?_ | refine Nd.mk (by decide +kernel) ?_ | refine Nd.mk (by omega) ?_ | (refine Nd.mk ?_ ?_; focus ((repeat' (first | exact trivial | exact wkE_refl _ | refine And.intro ?_ ?_)); done)) | refine RdN.intro _ rfl (by rfl) ?_); (conv => whnf))))
    refine SpecH.args (args' := pvs [.slice (at0 j.ob) way.length j.cap, .int .i64 (u : Int)]) (by simp [pvs, opvs, opv, nth]; try rfl) ?_
    refine call1 (contains_c j.ob j.cap way u (fun h => List.eq_nil_of_length_eq_zero (hj.1 h).1) (by omega) _ (fun w hw => hw.2.1)) ?_
    ((conv => whnf); (repeat ((first | refine BoxN.own ?_ | refine RwN.own ?_ | refine VrN.norm (wrap_i64 (by omega)) ?_ | refine VrN.keep ?_ | refine Nd.mk (by decide +kernel) ?_ | refine Nd.mk (by omega) ?_ | (refine Nd.mk ?_ ?_; focus ((repeat' (first | exact trivial | exact wkE_refl _ | refine And.intro ?_ ?_)); done)) | refine RdN.intro _ rfl (by rfl) ?_); (conv => whnf))))
    try refine Nd.mk ⟨Nat.le_refl 1, rfl, rfl⟩ ?_
    (conv => whnf)
    refine AppN.grow 2 (iC way) [.int .i64 (u : Int)] rfl rfl ⟨Nat.le_refl 1, ⟨by show (way.length + 1) * 8 ≤ _; omega, by omega⟩, Nat.one_ne_zero⟩ fun wb wc hwc _ => ?_
    obtain ⟨way2, hway2⟩ : ∃ w2, w2 = way ++ [(u : Int)] := ⟨_, rfl⟩
    have hcl : iC way ++ [.int .i64 (u : Int)] = iC way2 := by rw [hway2]; simp [iC]
    have hll : way.length + 1 = way2.length := by rw [hway2]; simp
    rw [hcl, hll]
    ((conv => whnf); (repeat ((first | refine BoxN.own ?_ | refine RwN.own ?_ | refine VrN.norm (wrap_i64 (by omega)) ?_ | refine VrN.keep ?_ | refine Nd.mk (by decide +kernel) ?_ | refine Nd.mk (by omega) ?_ | (refine Nd.mk ?_ ?_; focus ((repeat' (first | exact trivial | exact wkE_refl _ | refine And.intro ?_ ?_)); done)) | refine RdN.intro _ rfl (by rfl) ?_); (conv => whnf))))
    -- [91]: what is written, i2: the place behind
    refine callG (WriteString_w _ _ way2 ⟨some wb, wc⟩ false out ([91]) i hi (by first | omega | (simp; omega))) [0, 1, 2, 3] rfl ⟨rfl, rfl, rfl, rfl, trivial⟩ rfl fun i2 hi2 => ?_
    ((conv => whnf); (repeat ((first | refine BoxN.own ?_ | refine RwN.own ?_ | refine VrN.norm (wrap_i64 (by omega)) ?_ | refine VrN.keep ?_ | refine Nd.mk (by decide +kernel) ?_ | refine Nd.mk (by omega) ?_ | (refine Nd.mk ?_ ?_; focus ((repeat' (first | exact trivial | exact wkE_refl _ | refine And.intro ?_ ?_)); done)) | refine RdN.intro _ rfl (by rfl) ?_); (conv => whnf))))
    -- [91]: front, [46, 46, 46]: mark, [93]: back
    cases hun : decide ((u : Int) ∈ way) with
    | true =>
      rw [if_pos (of_decide_eq_true hun)]
      ((conv => whnf); (repeat ((first | refine BoxN.own ?_ | refine RwN.own ?_ | refine VrN.norm (wrap_i64 (by omega)) ?_ | refine VrN.keep ?_ | refine Nd.mk (by decide +kernel) ?_ | refine Nd.mk (by omega) ?_ | (refine Nd.mk ?_ ?_; focus ((repeat' (first | exact trivial | exact wkE_refl _ | refine And.intro ?_ ?_)); done)) | refine RdN.intro _ rfl (by rfl) ?_); (conv => whnf))))
      -- out ++ ([91]): what is there, [46, 46, 46]: what is written, i2: the Builder's place, hi2: its word, i3: the place behind
      refine callG (WriteString_w _ _ way2 ⟨some wb, wc⟩ true (out ++ ([91])) ([46, 46, 46]) i2 hi2 (by first | omega | (simp; omega))) [0, 1, 2, 3] rfl ⟨rfl, rfl, rfl, rfl, trivial⟩ rfl fun i3 hi3 => ?_
      ((conv => whnf); (repeat ((first | refine BoxN.own ?_ | refine RwN.own ?_ | refine VrN.norm (wrap_i64 (by omega)) ?_ | refine VrN.keep ?_ | refine Nd.mk (by decide +kernel) ?_ | refine Nd.mk (by omega) ?_ | (refine Nd.mk ?_ ?_; focus ((repeat' (first | exact trivial | exact wkE_refl _ | refine And.intro ?_ ?_)); done)) | refine RdN.intro _ rfl (by rfl) ?_); (conv => whnf))))
      -- out ++ ([91]) ++ ([46, 46, 46]): what is there, [93]: what is written, i3: the Builder's place, hi3: its word, i4: the place behind
      refine callG (WriteString_w _ _ way2 ⟨some wb, wc⟩ true (out ++ ([91]) ++ ([46, 46, 46])) ([93]) i3 hi3 (by first | omega | (simp; omega))) [0, 1, 2, 3] rfl ⟨rfl, rfl, rfl, rfl, trivial⟩ rfl fun i4 hi4 => ?_
      ((conv => whnf); (repeat ((first | refine BoxN.own ?_ | refine RwN.own ?_ | refine VrN.norm (wrap_i64 (by omega)) ?_ | refine VrN.keep ?_ | refine Nd.mk (by decide +kernel) ?_ | refine Nd.mk (by omega) ?_ | (refine Nd.mk ?_ ?_; focus ((repeat' (first | exact trivial | exact wkE_refl _ | refine And.intro ?_ ?_)); done)) | refine RdN.intro _ rfl (by rfl) ?_); (conv => whnf))))
      -- i4: the Builder's place
      refine DrawN.plan [0, 1, 5] [(2, 1), (3, 1), (4, 1), (6, 1), (7, 1), (8, 1), (9, 1), (10, 1), (11, 1), (12, 1), (13, 1)] [(14, 0)] (by decide +kernel) ?_
      ((conv => whnf); (repeat ((first | refine BoxN.own ?_ | refine RwN.own ?_ | refine VrN.norm (wrap_i64 (by omega)) ?_ | refine VrN.keep ?_ | refine Nd.mk (by decide +kernel) ?_ | refine Nd.mk (by omega) ?_ | (refine Nd.mk ?_ ?_; focus ((repeat' (first | exact trivial | exact wkE_refl _ | refine And.intro ?_ ?_)); done)) | refine RdN.intro _ rfl (by rfl) ?_); (conv => whnf))))
      rw [show IntKind.i64.wrap ((way2.length : Int) - 1) = (way.length : Int) by rw [wrap_i64 (by omega)]; omega]
      refine ReadW.slc_hi rfl (by kernel_rfl) rfl rfl (by show (0 : Int) ≤ (way.length : Int) ∧ (way.length : Int) ≤ (wc : Int); omega) ?_
      rw [Int.toNat_natCast]
      ((conv => whnf); (repeat ((first | refine BoxN.own ?_ | refine RwN.own ?_ | refine VrN.norm (wrap_i64 (by omega)) ?_ | refine VrN.keep ?_ | refine Nd.mk (by decide +kernel) ?_ | refine Nd.mk (by omega) ?_ | (refine Nd.mk ?_ ?_; focus ((repeat' (first | exact trivial | exact wkE_refl _ | refine And.intro ?_ ?_)); done)) | refine RdN.intro _ rfl (by rfl) ?_); (conv => whnf))))
      refine ⟨(i4, ⟨some wb, wc⟩), ⟨hi4, (fun h => by cases h), by show way.length ≤ wc; omega, fun h => by have : wc = 0 := h; omega⟩, rfl, ⟨rfl, rfl, rfl, rfl, rfl, trivial⟩, wkE_refl _, .inr (.inr ⟨rfl, rfl, ?_, rfl, by omega, rfl⟩), wkE_refl _, trivial⟩
      rw [hway2, Nat.mul_one]
      simp [iC]
    | false =>
    rw [if_neg (of_decide_eq_false hun)]
    ((conv => whnf); (repeat ((first | refine BoxN.own ?_ | refine RwN.own ?_ | refine VrN.norm (wrap_i64 (by omega)) ?_ | refine VrN.keep ?_ | refine Nd.mk (by decide +kernel) ?_ | refine Nd.mk (by omega) ?_ | (refine Nd.mk ?_ ?_; focus ((repeat' (first | exact trivial | exact wkE_refl _ | refine And.intro ?_ ?_)); done)) | refine RdN.intro _ rfl (by rfl) ?_); (conv => whnf))))
    -- 6: the kind, [91]: the front
    rw [← hway2]
    have hnd2 : way2.Nodup := by
      rw [hway2]
      exact List.nodup_append.2 ⟨hw, by simp, fun x hx y hy => by
        rw [List.mem_singleton.1 hy]
        intro e
        subst e
        exact of_decide_eq_false hun hx⟩
    have hr2 : ∀ x ∈ way2, 0 ≤ x ∧ x < (l.length : Int) := fun x hx => by
      rw [hway2] at hx
      rcases List.mem_append.1 hx with hx | hx
      · exact hr x hx
      · rw [List.mem_singleton.1 hx]; omega
    obtain ⟨ff, hff⟩ : ∃ ff, ff = fun o k => writeS 20000 (leafS qt it) (l.map (·.c)) m o way2 k := ⟨_, rfl⟩
    rw [← hff]
    have hfx : ∀ o x, ff o x = writeS 20000 (leafS qt it) (l.map (·.c)) m o way2 x := fun o x => by rw [hff]
    have hpre : ∀ i, (preT (Cell.mk 6 num text names items) i).length ≤ 50 := fun i => by
      have := pre_le hsh (u : Int) i
      rw [hat] at this
      exact this
    have hfold : ∀ k, (foldT ff (preT (Cell.mk 6 num text names items)) 0 (items.take k) (out ++ ([91]))).length ≤ 130000000 := fun k => by
      have hfl : (out ++ ([91])).length ≤ out.length + 2002 := by simp; try omega
      have := foldT_len (M := 20000) (f := ff) (pre := preT (Cell.mk 6 num text names items)) (p := 50) (X := 20000 + m * 200000) hpre (by omega) (fun o k ho => by rw [hff]; exact write_same m o _ k ho) (fun o k ho => by rw [hff]; have := write_len (M := 20000) hsh m o way2 k; show (writeS _ _ _ _ _ _ _).length ≤ _; omega) (items.take k) 0 (out ++ ([91])) (22002 + m * 200000) (by omega) (by omega)
      rw [List.length_take] at this
      omega
    refine spec_of_exec hm Tryz.func122 (by kernel_rfl) rfl rfl ?_
    ((conv => whnf); (repeat ((first | refine BoxN.own ?_ | refine RwN.own ?_ | refine VrN.norm (wrap_i64 (by omega)) ?_ | refine VrN.keep ?_ | refine Nd.mk (by decide +kernel) ?_ | refine Nd.mk (by omega) ?_ | (refine Nd.mk ?_ ?_; focus ((repeat' (first | exact trivial | exact wkE_refl _ | refine And.intro ?_ ?_)); done)) | refine RdN.intro _ rfl (by rfl) ?_); (conv => whnf))))
    -- 6: the kind, [91]: the front
    refine LoopN.intro (Nat × BSt × BSt) (fun ⟨k, i, j⟩ => k ≤ items.length ∧ i.ok (foldT ff (preT (Cell.mk 6 num text names items)) 0 (items.take k) (out ++ ([91]))).length ∧ j.ok way2.length) (fun ⟨k, _, _⟩ => mkS Tryz.f122.ntmps 0 [(0, .c (.lp 0 0)), (3, .c (.lp 7 0)), (7, .c (.v (.slice ia items.length ic))), (8, .c (.v (.int .i64 (items.length : Int)))), (9, .c (.v (.int .i64 (k : Int))))])
      (fun ⟨k, i, j⟩ => wH (.slice a l.length ca) (gF a l E) true (foldT ff (preT (Cell.mk 6 num text names items)) 0 (items.take k) (out ++ ([91]))) i way2 j ++ [.dead, .dead, .dead, .blk 42 [.v (.int .i64 6), .v (.int .i64 num), .v (.string (bs text)), .v (.slice na names.length nc), .v (.slice ia items.length ic)]]) (fun ⟨k, _, _⟩ => items.length - k) [] rfl (fun ⟨_, _, _⟩ => rfl) (fun ⟨_, _, _⟩ => rfl) (fun ⟨_, _, _⟩ _ => okHB_eq rfl) ?_ ?_
    · refine ⟨(0, i2, ⟨some wb, wc⟩), ⟨Nat.zero_le _, hi2, (fun h => by cases h), by show way2.length ≤ wc; omega, fun h => by have : wc = 0 := h; omega⟩, ?_, wkE_refl _, wkE_refl _, wkE_refl _, wkE_refl _, trivial, trivial, trivial, wkE_refl _, trivial⟩
      (repeat' (first | exact trivial | refine And.intro (by with_reducible rfl) ?_ | (with_reducible exact wkC_refl _) | (with_reducible exact wkCs_refl _) | refine And.intro ?_ ?_))
      all_goals rfl
    rintro ⟨k, i3, j3⟩ ⟨hk3, hi3, hj3⟩
    ((conv => whnf); (repeat ((first | refine BoxN.own ?_ | refine RwN.own ?_ | refine VrN.norm (wrap_i64 (by omega)) ?_ | refine VrN.keep ?_ | refine Nd.mk (by decide +kernel) ?_ | refine Nd.mk (by omega) ?_ | (refine Nd.mk ?_ ?_; focus ((repeat' (first | exact trivial | exact wkE_refl _ | refine And.intro ?_ ?_)); done)) | refine RdN.intro _ rfl (by rfl) ?_); (conv => whnf))))
    refine brd_dec (fun h1 => ?_) (fun h1 => ?_)
    · obtain ⟨x, hx⟩ : ∃ x, items[k]? = some x := ⟨_, List.getElem?_eq_getElem (by omega)⟩
      have hxin := cellD_in hcd x (List.mem_of_getElem? hx)
      obtain ⟨xn, rfl⟩ : ∃ xn : Nat, x = (xn : Int) := ⟨x.toNat, by omega⟩
      have hx1 : xn < l.length := by omega
      have hsi : ia.isSome = true := by
        have := hpo.ia
        cases ia with
        | none =>
          have h0 : items = [] := this rfl
          rw [h0] at hx
          cases hx
        | some b => rfl
      ((conv => whnf); (repeat ((first | refine BoxN.own ?_ | refine RwN.own ?_ | refine VrN.norm (wrap_i64 (by omega)) ?_ | refine VrN.keep ?_ | refine Nd.mk (by decide +kernel) ?_ | refine Nd.mk (by omega) ?_ | (refine Nd.mk ?_ ?_; focus ((repeat' (first | exact trivial | exact wkE_refl _ | refine And.intro ?_ ?_)); done)) | refine RdN.intro _ rfl (by rfl) ?_); (conv => whnf))))
      refine Nd.mk ⟨hsi, by omega, by omega⟩ ?_
      ((conv => whnf); (repeat ((first | refine BoxN.own ?_ | refine RwN.own ?_ | refine VrN.norm (wrap_i64 (by omega)) ?_ | refine VrN.keep ?_ | refine Nd.mk (by decide +kernel) ?_ | refine Nd.mk (by omega) ?_ | (refine Nd.mk ?_ ?_; focus ((repeat' (first | exact trivial | exact wkE_refl _ | refine And.intro ?_ ?_)); done)) | refine RdN.intro _ rfl (by rfl) ?_); (conv => whnf))))
      refine LdN.one (.int .i64 (xn : Int)) rfl (fun w hw => (hw.2.2.1.1.2 _ hpm).2) (by rw [Int.toNat_natCast]; show (iC items)[k * 1]? = _; rw [Nat.mul_one]; exact iC_get hx) ?_
      ((conv => whnf); (repeat ((first | refine BoxN.own ?_ | refine RwN.own ?_ | refine VrN.norm (wrap_i64 (by omega)) ?_ | refine VrN.keep ?_ | refine Nd.mk (by decide +kernel) ?_ | refine Nd.mk (by omega) ?_ | (refine Nd.mk ?_ ?_; focus ((repeat' (first | exact trivial | exact wkE_refl _ | refine And.intro ?_ ?_)); done)) | refine RdN.intro _ rfl (by rfl) ?_); (conv => whnf))))
      refine brd_dec (fun hk0 => ?_) (fun hk0 => ?_)
      · ((conv => whnf); (repeat ((first | refine BoxN.own ?_ | refine RwN.own ?_ | refine VrN.norm (wrap_i64 (by omega)) ?_ | refine VrN.keep ?_ | refine Nd.mk (by decide +kernel) ?_ | refine Nd.mk (by omega) ?_ | (refine Nd.mk ?_ ?_; focus ((repeat' (first | exact trivial | exact wkE_refl _ | refine And.intro ?_ ?_)); done)) | refine RdN.intro _ rfl (by rfl) ?_); (conv => whnf))))
        -- 6: the kind, [91]: the front, [44, 32]: what stands ahead, by rw [preT_6 rfl, if_pos (by omega)]: why
        refine callG (WriteString_w _ _ way2 j3 true (foldT ff (preT (Cell.mk 6 num text names items)) 0 (items.take k) (out ++ ([91]))) ([44, 32]) i3 hi3 (by have := hfold k; simp only [List.length_cons, List.length_nil]; omega)) [0, 1, 2, 3] rfl ⟨rfl, rfl, rfl, rfl, trivial⟩ rfl fun i6 hi6 => ?_
        ((conv => whnf); (repeat ((first | refine BoxN.own ?_ | refine RwN.own ?_ | refine VrN.norm (wrap_i64 (by omega)) ?_ | refine VrN.keep ?_ | refine Nd.mk (by decide +kernel) ?_ | refine Nd.mk (by omega) ?_ | (refine Nd.mk ?_ ?_; focus ((repeat' (first | exact trivial | exact wkE_refl _ | refine And.intro ?_ ?_)); done)) | refine RdN.intro _ rfl (by rfl) ?_); (conv => whnf))))
        -- an item is written, and the round is over; [44, 32]: what stands ahead of it, i6: the Builder's place, by rw [preT_6 rfl, if_pos (by omega)]: the proof that it stands ahead
        refine callG (ih (by omega) (foldT ff (preT (Cell.mk 6 num text names items)) 0 (items.take k) (out ++ ([91])) ++ ([44, 32])) way2 i6 j3 xn (hi6) hj3 hx1 hnd2 hr2 (by omega) (by have := hfold k; simp only [List.length_append, List.length_cons, List.length_nil]; omega)) [0, 1, 2, 3] rfl ⟨rfl, rfl, rfl, rfl, trivial⟩ rfl fun st hst => ?_
        obtain ⟨i5, j5⟩ := st
        obtain ⟨hi5, hj5⟩ := hst
        simp only at hi5 hj5
        ((conv => whnf); (repeat ((first | refine BoxN.own ?_ | refine RwN.own ?_ | refine VrN.norm (wrap_i64 (by omega)) ?_ | refine VrN.keep ?_ | refine Nd.mk (by decide +kernel) ?_ | refine Nd.mk (by omega) ?_ | (refine Nd.mk ?_ ?_; focus ((repeat' (first | exact trivial | exact wkE_refl _ | refine And.intro ?_ ?_)); done)) | refine RdN.intro _ rfl (by rfl) ?_); (conv => whnf))))
        have hfs := foldT_take (f := ff) (pre := preT (Cell.mk 6 num text names items)) hx (out ++ ([91]))
        rw [show preT (Cell.mk 6 num text names items) k = [44, 32] from by rw [preT_6 rfl, if_pos (by omega)], hfx] at hfs
        refine ⟨(k + 1, i5, j5), ⟨by omega, by rw [hfs]; exact hi5, hj5⟩, by show items.length - (k + 1) < items.length - k; omega, ?_, ?_⟩
        · (repeat' (first | exact trivial | refine And.intro (by with_reducible rfl) ?_ | (with_reducible exact wkC_refl _) | (with_reducible exact wkCs_refl _) | refine And.intro ?_ ?_))
          all_goals first | rfl | exact av_int (by rw [wrap_i64 (by omega)]; omega) | exact av_int (by omega)
        · show wkH _ (wH _ _ true (foldT ff _ 0 (items.take (k + 1)) _) _ _ _ ++ _)
          rw [hfs]
          exact ⟨wkE_refl _, wkE_refl _, wkE_refl _, wkE_refl _, trivial, trivial, trivial, wkE_refl _, trivial⟩
      · ((conv => whnf); (repeat ((first | refine BoxN.own ?_ | refine RwN.own ?_ | refine VrN.norm (wrap_i64 (by omega)) ?_ | refine VrN.keep ?_ | refine Nd.mk (by decide +kernel) ?_ | refine Nd.mk (by omega) ?_ | (refine Nd.mk ?_ ?_; focus ((repeat' (first | exact trivial | exact wkE_refl _ | refine And.intro ?_ ?_)); done)) | refine RdN.intro _ rfl (by rfl) ?_); (conv => whnf))))
        -- 6: the kind, [91]: the front, by rw [preT_6 rfl, if_neg (by omega)]: why
        rw [show foldT ff (preT (Cell.mk 6 num text names items)) 0 (items.take k) (out ++ ([91])) = foldT ff (preT (Cell.mk 6 num text names items)) 0 (items.take k) (out ++ ([91])) ++ [] from (List.append_nil _).symm]
        -- an item is written, and the round is over; []: what stands ahead of it, i3: the Builder's place, by rw [preT_6 rfl, if_neg (by omega)]: the proof that it stands ahead
        refine callG (ih (by omega) (foldT ff (preT (Cell.mk 6 num text names items)) 0 (items.take k) (out ++ ([91])) ++ ([])) way2 i3 j3 xn (by rw [List.append_nil]; exact hi3) hj3 hx1 hnd2 hr2 (by omega) (by have := hfold k; simp only [List.length_append, List.length_cons, List.length_nil]; omega)) [0, 1, 2, 3] rfl ⟨rfl, rfl, rfl, rfl, trivial⟩ rfl fun st hst => ?_
        obtain ⟨i5, j5⟩ := st
        obtain ⟨hi5, hj5⟩ := hst
        simp only at hi5 hj5
        ((conv => whnf); (repeat ((first | refine BoxN.own ?_ | refine RwN.own ?_ | refine VrN.norm (wrap_i64 (by omega)) ?_ | refine VrN.keep ?_ | refine Nd.mk (by decide +kernel) ?_ | refine Nd.mk (by omega) ?_ | (refine Nd.mk ?_ ?_; focus ((repeat' (first | exact trivial | exact wkE_refl _ | refine And.intro ?_ ?_)); done)) | refine RdN.intro _ rfl (by rfl) ?_); (conv => whnf))))
        have hfs := foldT_take (f := ff) (pre := preT (Cell.mk 6 num text names items)) hx (out ++ ([91]))
        rw [show preT (Cell.mk 6 num text names items) k = [] from by rw [preT_6 rfl, if_neg (by omega)], hfx] at hfs
        refine ⟨(k + 1, i5, j5), ⟨by omega, by rw [hfs]; exact hi5, hj5⟩, by show items.length - (k + 1) < items.length - k; omega, ?_, ?_⟩
        · (repeat' (first | exact trivial | refine And.intro (by with_reducible rfl) ?_ | (with_reducible exact wkC_refl _) | (with_reducible exact wkCs_refl _) | refine And.intro ?_ ?_))
          all_goals first | rfl | exact av_int (by rw [wrap_i64 (by omega)]; omega) | exact av_int (by omega)
        · show wkH _ (wH _ _ true (foldT ff _ 0 (items.take (k + 1)) _) _ _ _ ++ _)
          rw [hfs]
          exact ⟨wkE_refl _, wkE_refl _, wkE_refl _, wkE_refl _, trivial, trivial, trivial, wkE_refl _, trivial⟩
    · have hin : k = items.length := by omega
      subst hin
      rw [List.take_length] at hi3 ⊢
      have hfe := hfold items.length
      rw [List.take_length] at hfe
      obtain ⟨wb, wc⟩ := j3
      cases wb with
      | none =>
        have := (hj3.1 rfl).1
        omega
      | some wb =>
      have hwc3 : way2.length ≤ wc := hj3.2.1
      ((conv => whnf); (repeat ((first | refine BoxN.own ?_ | refine RwN.own ?_ | refine VrN.norm (wrap_i64 (by omega)) ?_ | refine VrN.keep ?_ | refine Nd.mk (by decide +kernel) ?_ | refine Nd.mk (by omega) ?_ | (refine Nd.mk ?_ ?_; focus ((repeat' (first | exact trivial | exact wkE_refl _ | refine And.intro ?_ ?_)); done)) | refine RdN.intro _ rfl (by rfl) ?_); (conv => whnf))))
      refine callG (WriteString_w _ _ way2 ⟨some wb, wc⟩ true (foldT ff (preT (Cell.mk 6 num text names items)) 0 items (out ++ ([91]))) ([93]) i3 hi3 (by simp only [List.length_cons, List.length_nil]; omega)) [0, 1, 2, 3] rfl ⟨rfl, rfl, rfl, rfl, trivial⟩ rfl fun i7 hi7 => ?_
      ((conv => whnf); (repeat ((first | refine BoxN.own ?_ | refine RwN.own ?_ | refine VrN.norm (wrap_i64 (by omega)) ?_ | refine VrN.keep ?_ | refine Nd.mk (by decide +kernel) ?_ | refine Nd.mk (by omega) ?_ | (refine Nd.mk ?_ ?_; focus ((repeat' (first | exact trivial | exact wkE_refl _ | refine And.intro ?_ ?_)); done)) | refine RdN.intro _ rfl (by rfl) ?_); (conv => whnf))))
      -- i7: the Builder's place
      refine DrawN.plan [0, 1, 5] [(2, 1), (3, 1), (4, 1), (6, 1), (7, 1), (8, 1), (9, 1), (10, 1), (11, 1), (12, 1), (13, 1)] [(14, 0)] (by decide +kernel) ?_
      ((conv => whnf); (repeat ((first | refine BoxN.own ?_ | refine RwN.own ?_ | refine VrN.norm (wrap_i64 (by omega)) ?_ | refine VrN.keep ?_ | refine Nd.mk (by decide +kernel) ?_ | refine Nd.mk (by omega) ?_ | (refine Nd.mk ?_ ?_; focus ((repeat' (first | exact trivial | exact wkE_refl _ | refine And.intro ?_ ?_)); done)) | refine RdN.intro _ rfl (by rfl) ?_); (conv => whnf))))
      rw [show IntKind.i64.wrap ((way2.length : Int) - 1) = (way.length : Int) by rw [wrap_i64 (by omega)]; omega]
      refine ReadW.slc_hi rfl (by kernel_rfl) rfl rfl (by show (0 : Int) ≤ (way.length : Int) ∧ (way.length : Int) ≤ (wc : Int); omega) ?_
      rw [Int.toNat_natCast]
      ((conv => whnf); (repeat ((first | refine BoxN.own ?_ | refine RwN.own ?_ | refine VrN.norm (wrap_i64 (by omega)) ?_ | refine VrN.keep ?_ | refine Nd.mk (by decide +kernel) ?_ | refine Nd.mk (by omega) ?_ | (refine Nd.mk ?_ ?_; focus ((repeat' (first | exact trivial | exact wkE_refl _ | refine And.intro ?_ ?_)); done)) | refine RdN.intro _ rfl (by rfl) ?_); (conv => whnf))))
      refine ⟨(i7, ⟨some wb, wc⟩), ⟨hi7, (fun h => by cases h), by show way.length ≤ wc; omega, fun h => by have : wc = 0 := h; omega⟩, rfl, ⟨rfl, rfl, rfl, rfl, rfl, trivial⟩, wkE_refl _, .inr (.inr ⟨rfl, rfl, ?_, rfl, by omega, rfl⟩), wkE_refl _, trivial⟩
      rw [hway2, Nat.mul_one]
      simp [iC]
  · -- 7: the kind
    rw [writeS_in hM hat (fun h => absurd (of_decide_eq_true h) (by show ¬ (7 : Int) ≤ 5; decide))]
    -- 7: the kind
    refine ownC hm Tryz.func51 (by kernel_rfl) rfl rfl (fun _ _ => wH_ok _ _ _ _ _ _ _) (fun _ _ => Nat.le_refl _) ?_
    (first | refine wX ?_ | exact wZ)
    refine callG (Len_w _ _ way j false out i) [0, 1, 2, 3] rfl ⟨rfl, rfl, rfl, rfl, trivial⟩ rfl fun _ _ => ?_
    (first | refine wX ?_ | exact wZ)
    refine brd_dec (fun h => absurd h (by omega)) (fun _ => ?_)
    (first | refine wX ?_ | exact wZ)
    refine Nd.mk ⟨hsa, by omega, by omega⟩ ?_
    (first | refine wX ?_ | exact wZ)
    refine LdN.agg [.int .i64 7, .int .i64 num, .string (bs text), .slice na names.length nc, .slice ia items.length ic] rfl (fun w hw => hw.2.2.1.1.1) rfl (fun k hk => by rw [Int.toNat_natCast]; exact grC_get l u k hk hp) ?_
    ((conv => whnf); (repeat ((first | refine BoxN.own ?_ | refine RwN.own ?_ | refine VrN.norm (wrap_i64 (by omega)) ?_ | refine VrN.keep ?_ | refine Nd.mk (by decide +kernel) ?_ | refine Nd.mk (by omega) ?_ | (refine Nd.mk ?_ ?_; focus ((repeat' (first | exact trivial | exact wkE_refl _ | refine And.intro ?_ ?_)); done)) | refine RdN.intro _ rfl (by rfl) ?_); (conv => whnf))))
    refine spec_of_exec hm Tryz.func99 (by kernel_rfl) rfl rfl ?_
    ((conv => whnf); (repeat ((first | refine BoxN.own ?_ | refine RwN.own ?_ | refine VrN.norm (wrap_i64 (by omega)) ?_ | refine VrN.keep ?_ | refine Nd.mk (by decide +kernel) ?_ | refine Nd.mk (by omega) ?_ | (refine Nd.mk ?_ ?_; focus ((repeat' (first | exact trivial | exact wkE_refl _ | refine And.intro ?_ ?_)); done)) | refine RdN.intro _ rfl (by rfl) ?_); (conv => whnf))))
    refine SpecH.args (args' := pvs [.slice (at0 j.ob) way.length j.cap, .int .i64 (u : Int)]) (by simp [pvs, opvs, opv, nth]; try rfl) ?_
    refine call1 (contains_c j.ob j.cap way u (fun h => List.eq_nil_of_length_eq_zero (hj.1 h).1) (by omega) _ (fun w hw => hw.2.1)) ?_
    ((conv => whnf); (repeat ((first | refine BoxN.own ?_ | refine RwN.own ?_ | refine VrN.norm (wrap_i64 (by omega)) ?_ | refine VrN.keep ?_ | refine Nd.mk (by decide +kernel) ?_ | refine Nd.mk (by omega) ?_ | (refine Nd.mk ?_ ?_; focus ((repeat' (first | exact trivial | exact wkE_refl _ | refine And.intro ?_ ?_)); done)) | refine RdN.intro _ rfl (by rfl) ?_); (conv => whnf))))
    try refine Nd.mk ⟨Nat.le_refl 1, rfl, rfl⟩ ?_
    (conv => whnf)
    refine AppN.grow 2 (iC way) [.int .i64 (u : Int)] rfl rfl ⟨Nat.le_refl 1, ⟨by show (way.length + 1) * 8 ≤ _; omega, by omega⟩, Nat.one_ne_zero⟩ fun wb wc hwc _ => ?_
    obtain ⟨way2, hway2⟩ : ∃ w2, w2 = way ++ [(u : Int)] := ⟨_, rfl⟩
    have hcl : iC way ++ [.int .i64 (u : Int)] = iC way2 := by rw [hway2]; simp [iC]
    have hll : way.length + 1 = way2.length := by rw [hway2]; simp
    rw [hcl, hll]
    ((conv => whnf); (repeat ((first | refine BoxN.own ?_ | refine RwN.own ?_ | refine VrN.norm (wrap_i64 (by omega)) ?_ | refine VrN.keep ?_ | refine Nd.mk (by decide +kernel) ?_ | refine Nd.mk (by omega) ?_ | (refine Nd.mk ?_ ?_; focus ((repeat' (first | exact trivial | exact wkE_refl _ | refine And.intro ?_ ?_)); done)) | refine RdN.intro _ rfl (by rfl) ?_); (conv => whnf))))
    -- [123]: what is written, i2: the place behind
    refine callG (WriteString_w _ _ way2 ⟨some wb, wc⟩ false out ([123]) i hi (by first | omega | (simp; omega))) [0, 1, 2, 3] rfl ⟨rfl, rfl, rfl, rfl, trivial⟩ rfl fun i2 hi2 => ?_
    ((conv => whnf); (repeat ((first | refine BoxN.own ?_ | refine RwN.own ?_ | refine VrN.norm (wrap_i64 (by omega)) ?_ | refine VrN.keep ?_ | refine Nd.mk (by decide +kernel) ?_ | refine Nd.mk (by omega) ?_ | (refine Nd.mk ?_ ?_; focus ((repeat' (first | exact trivial | exact wkE_refl _ | refine And.intro ?_ ?_)); done)) | refine RdN.intro _ rfl (by rfl) ?_); (conv => whnf))))
    -- [123]: front, [46, 46, 46]: mark, [125]: back
    cases hun : decide ((u : Int) ∈ way) with
    | true =>
      rw [if_pos (of_decide_eq_true hun)]
      ((conv => whnf); (repeat ((first | refine BoxN.own ?_ | refine RwN.own ?_ | refine VrN.norm (wrap_i64 (by omega)) ?_ | refine VrN.keep ?_ | refine Nd.mk (by decide +kernel) ?_ | refine Nd.mk (by omega) ?_ | (refine Nd.mk ?_ ?_; focus ((repeat' (first | exact trivial | exact wkE_refl _ | refine And.intro ?_ ?_)); done)) | refine RdN.intro _ rfl (by rfl) ?_); (conv => whnf))))
      -- out ++ ([123]): what is there, [46, 46, 46]: what is written, i2: the Builder's place, hi2: its word, i3: the place behind
      refine callG (WriteString_w _ _ way2 ⟨some wb, wc⟩ true (out ++ ([123])) ([46, 46, 46]) i2 hi2 (by first | omega | (simp; omega))) [0, 1, 2, 3] rfl ⟨rfl, rfl, rfl, rfl, trivial⟩ rfl fun i3 hi3 => ?_
      ((conv => whnf); (repeat ((first | refine BoxN.own ?_ | refine RwN.own ?_ | refine VrN.norm (wrap_i64 (by omega)) ?_ | refine VrN.keep ?_ | refine Nd.mk (by decide +kernel) ?_ | refine Nd.mk (by omega) ?_ | (refine Nd.mk ?_ ?_; focus ((repeat' (first | exact trivial | exact wkE_refl _ | refine And.intro ?_ ?_)); done)) | refine RdN.intro _ rfl (by rfl) ?_); (conv => whnf))))
      -- out ++ ([123]) ++ ([46, 46, 46]): what is there, [125]: what is written, i3: the Builder's place, hi3: its word, i4: the place behind
      refine callG (WriteString_w _ _ way2 ⟨some wb, wc⟩ true (out ++ ([123]) ++ ([46, 46, 46])) ([125]) i3 hi3 (by first | omega | (simp; omega))) [0, 1, 2, 3] rfl ⟨rfl, rfl, rfl, rfl, trivial⟩ rfl fun i4 hi4 => ?_
      ((conv => whnf); (repeat ((first | refine BoxN.own ?_ | refine RwN.own ?_ | refine VrN.norm (wrap_i64 (by omega)) ?_ | refine VrN.keep ?_ | refine Nd.mk (by decide +kernel) ?_ | refine Nd.mk (by omega) ?_ | (refine Nd.mk ?_ ?_; focus ((repeat' (first | exact trivial | exact wkE_refl _ | refine And.intro ?_ ?_)); done)) | refine RdN.intro _ rfl (by rfl) ?_); (conv => whnf))))
      -- i4: the Builder's place
      refine DrawN.plan [0, 1, 5] [(2, 1), (3, 1), (4, 1), (6, 1), (7, 1), (8, 1), (9, 1), (10, 1), (11, 1), (12, 1), (13, 1)] [(14, 0)] (by decide +kernel) ?_
      ((conv => whnf); (repeat ((first | refine BoxN.own ?_ | refine RwN.own ?_ | refine VrN.norm (wrap_i64 (by omega)) ?_ | refine VrN.keep ?_ | refine Nd.mk (by decide +kernel) ?_ | refine Nd.mk (by omega) ?_ | (refine Nd.mk ?_ ?_; focus ((repeat' (first | exact trivial | exact wkE_refl _ | refine And.intro ?_ ?_)); done)) | refine RdN.intro _ rfl (by rfl) ?_); (conv => whnf))))
      rw [show IntKind.i64.wrap ((way2.length : Int) - 1) = (way.length : Int) by rw [wrap_i64 (by omega)]; omega]
      refine ReadW.slc_hi rfl (by kernel_rfl) rfl rfl (by show (0 : Int) ≤ (way.length : Int) ∧ (way.length : Int) ≤ (wc : Int); omega) ?_
      rw [Int.toNat_natCast]
      ((conv => whnf); (repeat ((first | refine BoxN.own ?_ | refine RwN.own ?_ | refine VrN.norm (wrap_i64 (by omega)) ?_ | refine VrN.keep ?_ | refine Nd.mk (by decide +kernel) ?_ | refine Nd.mk (by omega) ?_ | (refine Nd.mk ?_ ?_; focus ((repeat' (first | exact trivial | exact wkE_refl _ | refine And.intro ?_ ?_)); done)) | refine RdN.intro _ rfl (by rfl) ?_); (conv => whnf))))
      refine ⟨(i4, ⟨some wb, wc⟩), ⟨hi4, (fun h => by cases h), by show way.length ≤ wc; omega, fun h => by have : wc = 0 := h; omega⟩, rfl, ⟨rfl, rfl, rfl, rfl, rfl, trivial⟩, wkE_refl _, .inr (.inr ⟨rfl, rfl, ?_, rfl, by omega, rfl⟩), wkE_refl _, trivial⟩
      rw [hway2, Nat.mul_one]
      simp [iC]
    | false =>
    rw [if_neg (of_decide_eq_false hun)]
    ((conv => whnf); (repeat ((first | refine BoxN.own ?_ | refine RwN.own ?_ | refine VrN.norm (wrap_i64 (by omega)) ?_ | refine VrN.keep ?_ | refine Nd.mk (by decide +kernel) ?_ | refine Nd.mk (by omega) ?_ | (refine Nd.mk ?_ ?_; focus ((repeat' (first | exact trivial | exact wkE_refl _ | refine And.intro ?_ ?_)); done)) | refine RdN.intro _ rfl (by rfl) ?_); (conv => whnf))))
    -- 7: the kind, [123]: the front
    rw [← hway2]
    have hnd2 : way2.Nodup := by
      rw [hway2]
      exact List.nodup_append.2 ⟨hw, by simp, fun x hx y hy => by
        rw [List.mem_singleton.1 hy]
        intro e
        subst e
        exact of_decide_eq_false hun hx⟩
    have hr2 : ∀ x ∈ way2, 0 ≤ x ∧ x < (l.length : Int) := fun x hx => by
      rw [hway2] at hx
      rcases List.mem_append.1 hx with hx | hx
      · exact hr x hx
      · rw [List.mem_singleton.1 hx]; omega
    obtain ⟨ff, hff⟩ : ∃ ff, ff = fun o k => writeS 20000 (leafS qt it) (l.map (·.c)) m o way2 k := ⟨_, rfl⟩
    rw [← hff]
    have hfx : ∀ o x, ff o x = writeS 20000 (leafS qt it) (l.map (·.c)) m o way2 x := fun o x => by rw [hff]
    have hpre : ∀ i, (preT (Cell.mk 7 num text names items) i).length ≤ 50 := fun i => by
      have := pre_le hsh (u : Int) i
      rw [hat] at this
      exact this
    have hfold : ∀ k, (foldT ff (preT (Cell.mk 7 num text names items)) 0 (items.take k) (out ++ ([123]))).length ≤ 130000000 := fun k => by
      have hfl : (out ++ ([123])).length ≤ out.length + 2002 := by simp; try omega
      have := foldT_len (M := 20000) (f := ff) (pre := preT (Cell.mk 7 num text names items)) (p := 50) (X := 20000 + m * 200000) hpre (by omega) (fun o k ho => by rw [hff]; exact write_same m o _ k ho) (fun o k ho => by rw [hff]; have := write_len (M := 20000) hsh m o way2 k; show (writeS _ _ _ _ _ _ _).length ≤ _; omega) (items.take k) 0 (out ++ ([123])) (22002 + m * 200000) (by omega) (by omega)
      rw [List.length_take] at this
      omega
    refine spec_of_exec hm Tryz.func122 (by kernel_rfl) rfl rfl ?_
    ((conv => whnf); (repeat ((first | refine BoxN.own ?_ | refine RwN.own ?_ | refine VrN.norm (wrap_i64 (by omega)) ?_ | refine VrN.keep ?_ | refine Nd.mk (by decide +kernel) ?_ | refine Nd.mk (by omega) ?_ | (refine Nd.mk ?_ ?_; focus ((repeat' (first | exact trivial | exact wkE_refl _ | refine And.intro ?_ ?_)); done)) | refine RdN.intro _ rfl (by rfl) ?_); (conv => whnf))))
    -- 7: the kind, [123]: the front
    refine LoopN.intro (Nat × BSt × BSt) (fun ⟨k, i, j⟩ => k ≤ items.length ∧ i.ok (foldT ff (preT (Cell.mk 7 num text names items)) 0 (items.take k) (out ++ ([123]))).length ∧ j.ok way2.length) (fun ⟨k, _, _⟩ => mkS Tryz.f122.ntmps 0 [(0, .c (.lp 0 0)), (3, .c (.lp 7 0)), (7, .c (.v (.slice ia items.length ic))), (8, .c (.v (.int .i64 (items.length : Int)))), (9, .c (.v (.int .i64 (k : Int))))])
      (fun ⟨k, i, j⟩ => wH (.slice a l.length ca) (gF a l E) true (foldT ff (preT (Cell.mk 7 num text names items)) 0 (items.take k) (out ++ ([123]))) i way2 j ++ [.dead, .dead, .dead, .blk 42 [.v (.int .i64 7), .v (.int .i64 num), .v (.string (bs text)), .v (.slice na names.length nc), .v (.slice ia items.length ic)]]) (fun ⟨k, _, _⟩ => items.length - k) [] rfl (fun ⟨_, _, _⟩ => rfl) (fun ⟨_, _, _⟩ => rfl) (fun ⟨_, _, _⟩ _ => okHB_eq rfl) ?_ ?_
    · refine ⟨(0, i2, ⟨some wb, wc⟩), ⟨Nat.zero_le _, hi2, (fun h => by cases h), by show way2.length ≤ wc; omega, fun h => by have : wc = 0 := h; omega⟩, ?_, wkE_refl _, wkE_refl _, wkE_refl _, wkE_refl _, trivial, trivial, trivial, wkE_refl _, trivial⟩
      (repeat' (first | exact trivial | refine And.intro (by with_reducible rfl) ?_ | (with_reducible exact wkC_refl _) | (with_reducible exact wkCs_refl _) | refine And.intro ?_ ?_))
      all_goals rfl
    rintro ⟨k, i3, j3⟩ ⟨hk3, hi3, hj3⟩
    ((conv => whnf); (repeat ((first | refine BoxN.own ?_ | refine RwN.own ?_ | refine VrN.norm (wrap_i64 (by omega)) ?_ | refine VrN.keep ?_ | refine Nd.mk (by decide +kernel) ?_ | refine Nd.mk (by omega) ?_ | (refine Nd.mk ?_ ?_; focus ((repeat' (first | exact trivial | exact wkE_refl _ | refine And.intro ?_ ?_)); done)) | refine RdN.intro _ rfl (by rfl) ?_); (conv => whnf))))
    refine brd_dec (fun h1 => ?_) (fun h1 => ?_)
    · obtain ⟨x, hx⟩ : ∃ x, items[k]? = some x := ⟨_, List.getElem?_eq_getElem (by omega)⟩
      have hxin := cellD_in hcd x (List.mem_of_getElem? hx)
      obtain ⟨xn, rfl⟩ : ∃ xn : Nat, x = (xn : Int) := ⟨x.toNat, by omega⟩
      have hx1 : xn < l.length := by omega
      have hsi : ia.isSome = true := by
        have := hpo.ia
        cases ia with
        | none =>
          have h0 : items = [] := this rfl
          rw [h0] at hx
          cases hx
        | some b => rfl
      ((conv => whnf); (repeat ((first | refine BoxN.own ?_ | refine RwN.own ?_ | refine VrN.norm (wrap_i64 (by omega)) ?_ | refine VrN.keep ?_ | refine Nd.mk (by decide +kernel) ?_ | refine Nd.mk (by omega) ?_ | (refine Nd.mk ?_ ?_; focus ((repeat' (first | exact trivial | exact wkE_refl _ | refine And.intro ?_ ?_)); done)) | refine RdN.intro _ rfl (by rfl) ?_); (conv => whnf))))
      refine Nd.mk ⟨hsi, by omega, by omega⟩ ?_
      ((conv => whnf); (repeat ((first | refine BoxN.own ?_ | refine RwN.own ?_ | refine VrN.norm (wrap_i64 (by omega)) ?_ | refine VrN.keep ?_ | refine Nd.mk (by decide +kernel) ?_ | refine Nd.mk (by omega) ?_ | (refine Nd.mk ?_ ?_; focus ((repeat' (first | exact trivial | exact wkE_refl _ | refine And.intro ?_ ?_)); done)) | refine RdN.intro _ rfl (by rfl) ?_); (conv => whnf))))
      refine LdN.one (.int .i64 (xn : Int)) rfl (fun w hw => (hw.2.2.1.1.2 _ hpm).2) (by rw [Int.toNat_natCast]; show (iC items)[k * 1]? = _; rw [Nat.mul_one]; exact iC_get hx) ?_
      ((conv => whnf); (repeat ((first | refine BoxN.own ?_ | refine RwN.own ?_ | refine VrN.norm (wrap_i64 (by omega)) ?_ | refine VrN.keep ?_ | refine Nd.mk (by decide +kernel) ?_ | refine Nd.mk (by omega) ?_ | (refine Nd.mk ?_ ?_; focus ((repeat' (first | exact trivial | exact wkE_refl _ | refine And.intro ?_ ?_)); done)) | refine RdN.intro _ rfl (by rfl) ?_); (conv => whnf))))
      refine brd_eq (fun hk1 => ?_) (fun hk1 => ?_)
      · rw [Int.tmod_eq_emod_of_nonneg (by omega)] at hk1
        ((conv => whnf); (repeat ((first | refine BoxN.own ?_ | refine RwN.own ?_ | refine VrN.norm (wrap_i64 (by omega)) ?_ | refine VrN.keep ?_ | refine Nd.mk (by decide +kernel) ?_ | refine Nd.mk (by omega) ?_ | (refine Nd.mk ?_ ?_; focus ((repeat' (first | exact trivial | exact wkE_refl _ | refine And.intro ?_ ?_)); done)) | refine RdN.intro _ rfl (by rfl) ?_); (conv => whnf))))
        -- 7: the kind, [123]: the front, [32, 61, 62, 32]: what stands ahead, by rw [preT_7 rfl, if_pos (by omega)]: why
        refine callG (WriteString_w _ _ way2 j3 true (foldT ff (preT (Cell.mk 7 num text names items)) 0 (items.take k) (out ++ ([123]))) ([32, 61, 62, 32]) i3 hi3 (by have := hfold k; simp only [List.length_cons, List.length_nil]; omega)) [0, 1, 2, 3] rfl ⟨rfl, rfl, rfl, rfl, trivial⟩ rfl fun i6 hi6 => ?_
        ((conv => whnf); (repeat ((first | refine BoxN.own ?_ | refine RwN.own ?_ | refine VrN.norm (wrap_i64 (by omega)) ?_ | refine VrN.keep ?_ | refine Nd.mk (by decide +kernel) ?_ | refine Nd.mk (by omega) ?_ | (refine Nd.mk ?_ ?_; focus ((repeat' (first | exact trivial | exact wkE_refl _ | refine And.intro ?_ ?_)); done)) | refine RdN.intro _ rfl (by rfl) ?_); (conv => whnf))))
        -- an item is written, and the round is over; [32, 61, 62, 32]: what stands ahead of it, i6: the Builder's place, by rw [preT_7 rfl, if_pos (by omega)]: the proof that it stands ahead
        refine callG (ih (by omega) (foldT ff (preT (Cell.mk 7 num text names items)) 0 (items.take k) (out ++ ([123])) ++ ([32, 61, 62, 32])) way2 i6 j3 xn (hi6) hj3 hx1 hnd2 hr2 (by omega) (by have := hfold k; simp only [List.length_append, List.length_cons, List.length_nil]; omega)) [0, 1, 2, 3] rfl ⟨rfl, rfl, rfl, rfl, trivial⟩ rfl fun st hst => ?_
        obtain ⟨i5, j5⟩ := st
        obtain ⟨hi5, hj5⟩ := hst
        simp only at hi5 hj5
        ((conv => whnf); (repeat ((first | refine BoxN.own ?_ | refine RwN.own ?_ | refine VrN.norm (wrap_i64 (by omega)) ?_ | refine VrN.keep ?_ | refine Nd.mk (by decide +kernel) ?_ | refine Nd.mk (by omega) ?_ | (refine Nd.mk ?_ ?_; focus ((repeat' (first | exact trivial | exact wkE_refl _ | refine And.intro ?_ ?_)); done)) | refine RdN.intro _ rfl (by rfl) ?_); (conv => whnf))))
        have hfs := foldT_take (f := ff) (pre := preT (Cell.mk 7 num text names items)) hx (out ++ ([123]))
        rw [show preT (Cell.mk 7 num text names items) k = [32, 61, 62, 32] from by rw [preT_7 rfl, if_pos (by omega)], hfx] at hfs
        refine ⟨(k + 1, i5, j5), ⟨by omega, by rw [hfs]; exact hi5, hj5⟩, by show items.length - (k + 1) < items.length - k; omega, ?_, ?_⟩
        · (repeat' (first | exact trivial | refine And.intro (by with_reducible rfl) ?_ | (with_reducible exact wkC_refl _) | (with_reducible exact wkCs_refl _) | refine And.intro ?_ ?_))
          all_goals first | rfl | exact av_int (by rw [wrap_i64 (by omega)]; omega) | exact av_int (by omega)
        · show wkH _ (wH _ _ true (foldT ff _ 0 (items.take (k + 1)) _) _ _ _ ++ _)
          rw [hfs]
          exact ⟨wkE_refl _, wkE_refl _, wkE_refl _, wkE_refl _, trivial, trivial, trivial, wkE_refl _, trivial⟩
      rw [Int.tmod_eq_emod_of_nonneg (by omega)] at hk1
      ((conv => whnf); (repeat ((first | refine BoxN.own ?_ | refine RwN.own ?_ | refine VrN.norm (wrap_i64 (by omega)) ?_ | refine VrN.keep ?_ | refine Nd.mk (by decide +kernel) ?_ | refine Nd.mk (by omega) ?_ | (refine Nd.mk ?_ ?_; focus ((repeat' (first | exact trivial | exact wkE_refl _ | refine And.intro ?_ ?_)); done)) | refine RdN.intro _ rfl (by rfl) ?_); (conv => whnf))))
      refine brd_dec (fun hk0 => ?_) (fun hk0 => ?_)
      · ((conv => whnf); (repeat ((first | refine BoxN.own ?_ | refine RwN.own ?_ | refine VrN.norm (wrap_i64 (by omega)) ?_ | refine VrN.keep ?_ | refine Nd.mk (by decide +kernel) ?_ | refine Nd.mk (by omega) ?_ | (refine Nd.mk ?_ ?_; focus ((repeat' (first | exact trivial | exact wkE_refl _ | refine And.intro ?_ ?_)); done)) | refine RdN.intro _ rfl (by rfl) ?_); (conv => whnf))))
        -- 7: the kind, [123]: the front, [44, 32]: what stands ahead, by rw [preT_7 rfl, if_neg (by omega), if_pos (by omega)]: why
        refine callG (WriteString_w _ _ way2 j3 true (foldT ff (preT (Cell.mk 7 num text names items)) 0 (items.take k) (out ++ ([123]))) ([44, 32]) i3 hi3 (by have := hfold k; simp only [List.length_cons, List.length_nil]; omega)) [0, 1, 2, 3] rfl ⟨rfl, rfl, rfl, rfl, trivial⟩ rfl fun i6 hi6 => ?_
        ((conv => whnf); (repeat ((first | refine BoxN.own ?_ | refine RwN.own ?_ | refine VrN.norm (wrap_i64 (by omega)) ?_ | refine VrN.keep ?_ | refine Nd.mk (by decide +kernel) ?_ | refine Nd.mk (by omega) ?_ | (refine Nd.mk ?_ ?_; focus ((repeat' (first | exact trivial | exact wkE_refl _ | refine And.intro ?_ ?_)); done)) | refine RdN.intro _ rfl (by rfl) ?_); (conv => whnf))))
        -- an item is written, and the round is over; [44, 32]: what stands ahead of it, i6: the Builder's place, by rw [preT_7 rfl, if_neg (by omega), if_pos (by omega)]: the proof that it stands ahead
        refine callG (ih (by omega) (foldT ff (preT (Cell.mk 7 num text names items)) 0 (items.take k) (out ++ ([123])) ++ ([44, 32])) way2 i6 j3 xn (hi6) hj3 hx1 hnd2 hr2 (by omega) (by have := hfold k; simp only [List.length_append, List.length_cons, List.length_nil]; omega)) [0, 1, 2, 3] rfl ⟨rfl, rfl, rfl, rfl, trivial⟩ rfl fun st hst => ?_
        obtain ⟨i5, j5⟩ := st
        obtain ⟨hi5, hj5⟩ := hst
        simp only at hi5 hj5
        ((conv => whnf); (repeat ((first | refine BoxN.own ?_ | refine RwN.own ?_ | refine VrN.norm (wrap_i64 (by omega)) ?_ | refine VrN.keep ?_ | refine Nd.mk (by decide +kernel) ?_ | refine Nd.mk (by omega) ?_ | (refine Nd.mk ?_ ?_; focus ((repeat' (first | exact trivial | exact wkE_refl _ | refine And.intro ?_ ?_)); done)) | refine RdN.intro _ rfl (by rfl) ?_); (conv => whnf))))
        have hfs := foldT_take (f := ff) (pre := preT (Cell.mk 7 num text names items)) hx (out ++ ([123]))
        rw [show preT (Cell.mk 7 num text names items) k = [44, 32] from by rw [preT_7 rfl, if_neg (by omega), if_pos (by omega)], hfx] at hfs
        refine ⟨(k + 1, i5, j5), ⟨by omega, by rw [hfs]; exact hi5, hj5⟩, by show items.length - (k + 1) < items.length - k; omega, ?_, ?_⟩
        · (repeat' (first | exact trivial | refine And.intro (by with_reducible rfl) ?_ | (with_reducible exact wkC_refl _) | (with_reducible exact wkCs_refl _) | refine And.intro ?_ ?_))
          all_goals first | rfl | exact av_int (by rw [wrap_i64 (by omega)]; omega) | exact av_int (by omega)
        · show wkH _ (wH _ _ true (foldT ff _ 0 (items.take (k + 1)) _) _ _ _ ++ _)
          rw [hfs]
          exact ⟨wkE_refl _, wkE_refl _, wkE_refl _, wkE_refl _, trivial, trivial, trivial, wkE_refl _, trivial⟩
      · ((conv => whnf); (repeat ((first | refine BoxN.own ?_ | refine RwN.own ?_ | refine VrN.norm (wrap_i64 (by omega)) ?_ | refine VrN.keep ?_ | refine Nd.mk (by decide +kernel) ?_ | refine Nd.mk (by omega) ?_ | (refine Nd.mk ?_ ?_; focus ((repeat' (first | exact trivial | exact wkE_refl _ | refine And.intro ?_ ?_)); done)) | refine RdN.intro _ rfl (by rfl) ?_); (conv => whnf))))
        -- 7: the kind, [123]: the front, by rw [preT_7 rfl, if_neg (by omega), if_neg (by omega)]: why
        rw [show foldT ff (preT (Cell.mk 7 num text names items)) 0 (items.take k) (out ++ ([123])) = foldT ff (preT (Cell.mk 7 num text names items)) 0 (items.take k) (out ++ ([123])) ++ [] from (List.append_nil _).symm]
        -- an item is written, and the round is over; []: what stands ahead of it, i3: the Builder's place, by rw [preT_7 rfl, if_neg (by omega), if_neg (by omega)]: the proof that it stands ahead
        refine callG (ih (by omega) (foldT ff (preT (Cell.mk 7 num text names items)) 0 (items.take k) (out ++ ([123])) ++ ([])) way2 i3 j3 xn (by rw [List.append_nil]; exact hi3) hj3 hx1 hnd2 hr2 (by omega) (by have := hfold k; simp only [List.length_append, List.length_cons, List.length_nil]; omega)) [0, 1, 2, 3] rfl ⟨rfl, rfl, rfl, rfl, trivial⟩ rfl fun st hst => ?_
        obtain ⟨i5, j5⟩ := st
        obtain ⟨hi5, hj5⟩ := hst
        simp only at hi5 hj5
        ((conv => whnf); (repeat ((first | refine BoxN.own ?_ | refine RwN.own ?_ | refine VrN.norm (wrap_i64 (by omega)) ?_ | refine VrN.keep ?_ | refine Nd.mk (by decide +kernel) ?_ | refine Nd.mk (by omega) ?_ | (refine Nd.mk ?_ ?_; focus ((repeat' (first | exact trivial | exact wkE_refl _ | refine And.intro ?_ ?_)); done)) | refine RdN.intro _ rfl (by rfl) ?_); (conv => whnf))))
        have hfs := foldT_take (f := ff) (pre := preT (Cell.mk 7 num text names items)) hx (out ++ ([123]))
        rw [show preT (Cell.mk 7 num text names items) k = [] from by rw [preT_7 rfl, if_neg (by omega), if_neg (by omega)], hfx] at hfs
        refine ⟨(k + 1, i5, j5), ⟨by omega, by rw [hfs]; exact hi5, hj5⟩, by show items.length - (k + 1) < items.length - k; omega, ?_, ?_⟩
        · (repeat' (first | exact trivial | refine And.intro (by with_reducible rfl) ?_ | (with_reducible exact wkC_refl _) | (with_reducible exact wkCs_refl _) | refine And.intro ?_ ?_))
          all_goals first | rfl | exact av_int (by rw [wrap_i64 (by omega)]; omega) | exact av_int (by omega)
        · show wkH _ (wH _ _ true (foldT ff _ 0 (items.take (k + 1)) _) _ _ _ ++ _)
          rw [hfs]
          exact ⟨wkE_refl _, wkE_refl _, wkE_refl _, wkE_refl _, trivial, trivial, trivial, wkE_refl _, trivial⟩
    · have hin : k = items.length := by omega
      subst hin
      rw [List.take_length] at hi3 ⊢
      have hfe := hfold items.length
      rw [List.take_length] at hfe
      obtain ⟨wb, wc⟩ := j3
      cases wb with
      | none =>
        have := (hj3.1 rfl).1
        omega
      | some wb =>
      have hwc3 : way2.length ≤ wc := hj3.2.1
      ((conv => whnf); (repeat ((first | refine BoxN.own ?_ | refine RwN.own ?_ | refine VrN.norm (wrap_i64 (by omega)) ?_ | refine VrN.keep ?_ | refine Nd.mk (by decide +kernel) ?_ | refine Nd.mk (by omega) ?_ | (refine Nd.mk ?_ ?_; focus ((repeat' (first | exact trivial | exact wkE_refl _ | refine And.intro ?_ ?_)); done)) | refine RdN.intro _ rfl (by rfl) ?_); (conv => whnf))))
      refine callG (WriteString_w _ _ way2 ⟨some wb, wc⟩ true (foldT ff (preT (Cell.mk 7 num text names items)) 0 items (out ++ ([123]))) ([125]) i3 hi3 (by simp only [List.length_cons, List.length_nil]; omega)) [0, 1, 2, 3] rfl ⟨rfl, rfl, rfl, rfl, trivial⟩ rfl fun i7 hi7 => ?_
      ((conv => whnf); (repeat ((first | refine BoxN.own ?_ | refine RwN.own ?_ | refine VrN.norm (wrap_i64 (by omega)) ?_ | refine VrN.keep ?_ | refine Nd.mk (by decide +kernel) ?_ | refine Nd.mk (by omega) ?_ | (refine Nd.mk ?_ ?_; focus ((repeat' (first | exact trivial | exact wkE_refl _ | refine And.intro ?_ ?_)); done)) | refine RdN.intro _ rfl (by rfl) ?_); (conv => whnf))))
      -- i7: the Builder's place
      refine DrawN.plan [0, 1, 5] [(2, 1), (3, 1), (4, 1), (6, 1), (7, 1), (8, 1), (9, 1), (10, 1), (11, 1), (12, 1), (13, 1)] [(14, 0)] (by decide +kernel) ?_
      ((conv => whnf); (repeat ((first | refine BoxN.own ?_ | refine RwN.own ?_ | refine VrN.norm (wrap_i64 (by omega)) ?_ | refine VrN.keep ?_ | refine Nd.mk (by decide +kernel) ?_ | refine Nd.mk (by omega) ?_ | (refine Nd.mk ?_ ?_; focus ((repeat' (first | exact trivial | exact wkE_refl _ | refine And.intro ?_ ?_)); done)) | refine RdN.intro _ rfl (by rfl) ?_); (conv => whnf))))
      rw [show IntKind.i64.wrap ((way2.length : Int) - 1) = (way.length : Int) by rw [wrap_i64 (by omega)]; omega]
      refine ReadW.slc_hi rfl (by kernel_rfl) rfl rfl (by show (0 : Int) ≤ (way.length : Int) ∧ (way.length : Int) ≤ (wc : Int); omega) ?_
      rw [Int.toNat_natCast]
      ((conv => whnf); (repeat ((first | refine BoxN.own ?_ | refine RwN.own ?_ | refine VrN.norm (wrap_i64 (by omega)) ?_ | refine VrN.keep ?_ | refine Nd.mk (by decide +kernel) ?_ | refine Nd.mk (by omega) ?_ | (refine Nd.mk ?_ ?_; focus ((repeat' (first | exact trivial | exact wkE_refl _ | refine And.intro ?_ ?_)); done)) | refine RdN.intro _ rfl (by rfl) ?_); (conv => whnf))))
      refine ⟨(i7, ⟨some wb, wc⟩), ⟨hi7, (fun h => by cases h), by show way.length ≤ wc; omega, fun h => by have : wc = 0 := h; omega⟩, rfl, ⟨rfl, rfl, rfl, rfl, rfl, trivial⟩, wkE_refl _, .inr (.inr ⟨rfl, rfl, ?_, rfl, by omega, rfl⟩), wkE_refl _, trivial⟩
      rw [hway2, Nat.mul_one]
      simp [iC]
  · rw [writeS_in hM hat (fun h => absurd (of_decide_eq_true h) (by show ¬ (8 : Int) ≤ 5; decide))]
    -- 8: the kind
    refine ownC hm Tryz.func51 (by kernel_rfl) rfl rfl (fun _ _ => wH_ok _ _ _ _ _ _ _) (fun _ _ => Nat.le_refl _) ?_
    (first | refine wX ?_ | exact wZ)
    refine callG (Len_w _ _ way j false out i) [0, 1, 2, 3] rfl ⟨rfl, rfl, rfl, rfl, trivial⟩ rfl fun _ _ => ?_
    (first | refine wX ?_ | exact wZ)
    refine brd_dec (fun h => absurd h (by omega)) (fun _ => ?_)
    (first | refine wX ?_ | exact wZ)
    refine Nd.mk ⟨hsa, by omega, by omega⟩ ?_
    (first | refine wX ?_ | exact wZ)
    refine LdN.agg [.int .i64 8, .int .i64 num, .string (bs text), .slice na names.length nc, .slice ia items.length ic] rfl (fun w hw => hw.2.2.1.1.1) rfl (fun k hk => by rw [Int.toNat_natCast]; exact grC_get l u k hk hp) ?_
    ((conv => whnf); (repeat ((first | refine BoxN.own ?_ | refine RwN.own ?_ | refine VrN.norm (wrap_i64 (by omega)) ?_ | refine VrN.keep ?_ | refine Nd.mk (by decide +kernel) ?_ | refine Nd.mk (by omega) ?_ | (refine Nd.mk ?_ ?_; focus ((repeat' (first | exact trivial | exact wkE_refl _ | refine And.intro ?_ ?_)); done)) | refine RdN.intro _ rfl (by rfl) ?_); (conv => whnf))))
    refine spec_of_exec hm Tryz.func99 (by kernel_rfl) rfl rfl ?_
    ((conv => whnf); (repeat ((first | refine LdN.one (a := some ⟨cb, 0, none⟩) (q := 0) (xs := [_, _, _, _, _]) _ rfl (fun w hw => hw.2.2.2.1) rfl ?_ | refine LdN.one (a := some ⟨cb, 0, none⟩) (q := 1) (xs := [_, _, _, _, _]) _ rfl (fun w hw => hw.2.2.2.1) rfl ?_ | refine LdN.one (a := some ⟨cb, 0, none⟩) (q := 2) (xs := [_, _, _, _, _]) _ rfl (fun w hw => hw.2.2.2.1) rfl ?_ | refine LdN.one (a := some ⟨cb, 0, none⟩) (q := 3) (xs := [_, _, _, _, _]) _ rfl (fun w hw => hw.2.2.2.1) rfl ?_ | refine LdN.one (a := some ⟨cb, 0, none⟩) (q := 4) (xs := [_, _, _, _, _]) _ rfl (fun w hw => hw.2.2.2.1) rfl ?_ | refine RwN.own ?_ | refine VrN.norm (wrap_i64 (by omega)) ?_ | refine VrN.keep ?_ | refine Nd.mk (by decide +kernel) ?_ | refine Nd.mk (by omega) ?_ | (refine Nd.mk ?_ ?_; focus ((repeat' (first | exact trivial | exact wkE_refl _ | refine And.intro ?_ ?_)); done)) | refine RdN.intro _ rfl (by rfl) ?_); (conv => whnf))))
    refine BoxN.known [.int .i64 8, .int .i64 num, .string (bs text), .slice na names.length nc, .slice ia items.length ic] rfl fun cb => ?_
    ((conv => whnf); (repeat ((first | refine LdN.one (a := some ⟨cb, 0, none⟩) (q := 0) (xs := [_, _, _, _, _]) _ rfl (fun w hw => hw.2.2.2.1) rfl ?_ | refine LdN.one (a := some ⟨cb, 0, none⟩) (q := 1) (xs := [_, _, _, _, _]) _ rfl (fun w hw => hw.2.2.2.1) rfl ?_ | refine LdN.one (a := some ⟨cb, 0, none⟩) (q := 2) (xs := [_, _, _, _, _]) _ rfl (fun w hw => hw.2.2.2.1) rfl ?_ | refine LdN.one (a := some ⟨cb, 0, none⟩) (q := 3) (xs := [_, _, _, _, _]) _ rfl (fun w hw => hw.2.2.2.1) rfl ?_ | refine LdN.one (a := some ⟨cb, 0, none⟩) (q := 4) (xs := [_, _, _, _, _]) _ rfl (fun w hw => hw.2.2.2.1) rfl ?_ | refine RwN.own ?_ | refine VrN.norm (wrap_i64 (by omega)) ?_ | refine VrN.keep ?_ | refine Nd.mk (by decide +kernel) ?_ | refine Nd.mk (by omega) ?_ | (refine Nd.mk ?_ ?_; focus ((repeat' (first | exact trivial | exact wkE_refl _ | refine And.intro ?_ ?_)); done)) | refine RdN.intro _ rfl (by rfl) ?_); (conv => whnf))))
    refine SpecH.args (args' := pvs [.slice (at0 j.ob) way.length j.cap, .int .i64 (u : Int)]) (by simp [pvs, opvs, opv, nth]; try rfl) ?_
    refine call1 (contains_c j.ob j.cap way u (fun h => List.eq_nil_of_length_eq_zero (hj.1 h).1) (by omega) _ (fun w hw => hw.2.1)) ?_
    ((conv => whnf); (repeat ((first | refine LdN.one (a := some ⟨cb, 0, none⟩) (q := 0) (xs := [_, _, _, _, _]) _ rfl (fun w hw => hw.2.2.2.1) rfl ?_ | refine LdN.one (a := some ⟨cb, 0, none⟩) (q := 1) (xs := [_, _, _, _, _]) _ rfl (fun w hw => hw.2.2.2.1) rfl ?_ | refine LdN.one (a := some ⟨cb, 0, none⟩) (q := 2) (xs := [_, _, _, _, _]) _ rfl (fun w hw => hw.2.2.2.1) rfl ?_ | refine LdN.one (a := some ⟨cb, 0, none⟩) (q := 3) (xs := [_, _, _, _, _]) _ rfl (fun w hw => hw.2.2.2.1) rfl ?_ | refine LdN.one (a := some ⟨cb, 0, none⟩) (q := 4) (xs := [_, _, _, _, _]) _ rfl (fun w hw => hw.2.2.2.1) rfl ?_ | refine RwN.own ?_ | refine VrN.norm (wrap_i64 (by omega)) ?_ | refine VrN.keep ?_ | refine Nd.mk (by decide +kernel) ?_ | refine Nd.mk (by omega) ?_ | (refine Nd.mk ?_ ?_; focus ((repeat' (first | exact trivial | exact wkE_refl _ | refine And.intro ?_ ?_)); done)) | refine RdN.intro _ rfl (by rfl) ?_); (conv => whnf))))
    try refine Nd.mk ⟨Nat.le_refl 1, rfl, rfl⟩ ?_
    (conv => whnf)
    refine AppN.grow 2 (iC way) [.int .i64 (u : Int)] rfl rfl ⟨Nat.le_refl 1, ⟨by show (way.length + 1) * 8 ≤ _; omega, by omega⟩, Nat.one_ne_zero⟩ fun wb wc hwc _ => ?_
    obtain ⟨way2, hway2⟩ : ∃ w2, w2 = way ++ [(u : Int)] := ⟨_, rfl⟩
    have hcl : iC way ++ [.int .i64 (u : Int)] = iC way2 := by rw [hway2]; simp [iC]
    have hll : way.length + 1 = way2.length := by rw [hway2]; simp
    rw [hcl, hll]
    ((conv => whnf); (repeat ((first | refine LdN.one (a := some ⟨cb, 0, none⟩) (q := 0) (xs := [_, _, _, _, _]) _ rfl (fun w hw => hw.2.2.2.1) rfl ?_ | refine LdN.one (a := some ⟨cb, 0, none⟩) (q := 1) (xs := [_, _, _, _, _]) _ rfl (fun w hw => hw.2.2.2.1) rfl ?_ | refine LdN.one (a := some ⟨cb, 0, none⟩) (q := 2) (xs := [_, _, _, _, _]) _ rfl (fun w hw => hw.2.2.2.1) rfl ?_ | refine LdN.one (a := some ⟨cb, 0, none⟩) (q := 3) (xs := [_, _, _, _, _]) _ rfl (fun w hw => hw.2.2.2.1) rfl ?_ | refine LdN.one (a := some ⟨cb, 0, none⟩) (q := 4) (xs := [_, _, _, _, _]) _ rfl (fun w hw => hw.2.2.2.1) rfl ?_ | refine RwN.own ?_ | refine VrN.norm (wrap_i64 (by omega)) ?_ | refine VrN.keep ?_ | refine Nd.mk (by decide +kernel) ?_ | refine Nd.mk (by omega) ?_ | (refine Nd.mk ?_ ?_; focus ((repeat' (first | exact trivial | exact wkE_refl _ | refine And.intro ?_ ?_)); done)) | refine RdN.intro _ rfl (by rfl) ?_); (conv => whnf))))
    refine Nd.mk (by show 2 + (bs text).size < _; rw [bs_size]; omega) ?_
    rw [show (({ data := #[35, 60] } : ByteArray) ++ bs text) = bs ([35, 60] ++ text) by rw [← bs_app]; rfl]
    ((conv => whnf); (repeat ((first | refine LdN.one (a := some ⟨cb, 0, none⟩) (q := 0) (xs := [_, _, _, _, _]) _ rfl (fun w hw => hw.2.2.2.1) rfl ?_ | refine LdN.one (a := some ⟨cb, 0, none⟩) (q := 1) (xs := [_, _, _, _, _]) _ rfl (fun w hw => hw.2.2.2.1) rfl ?_ | refine LdN.one (a := some ⟨cb, 0, none⟩) (q := 2) (xs := [_, _, _, _, _]) _ rfl (fun w hw => hw.2.2.2.1) rfl ?_ | refine LdN.one (a := some ⟨cb, 0, none⟩) (q := 3) (xs := [_, _, _, _, _]) _ rfl (fun w hw => hw.2.2.2.1) rfl ?_ | refine LdN.one (a := some ⟨cb, 0, none⟩) (q := 4) (xs := [_, _, _, _, _]) _ rfl (fun w hw => hw.2.2.2.1) rfl ?_ | refine RwN.own ?_ | refine VrN.norm (wrap_i64 (by omega)) ?_ | refine VrN.keep ?_ | refine Nd.mk (by decide +kernel) ?_ | refine Nd.mk (by omega) ?_ | (refine Nd.mk ?_ ?_; focus ((repeat' (first | exact trivial | exact wkE_refl _ | refine And.intro ?_ ?_)); done)) | refine RdN.intro _ rfl (by rfl) ?_); (conv => whnf))))
    -- [35, 60] ++ text: what is written, i2: the place behind
    refine callG (WriteString_w _ _ way2 ⟨some wb, wc⟩ false out ([35, 60] ++ text) i hi (by first | omega | (simp; omega))) [0, 1, 2, 3] rfl ⟨rfl, rfl, rfl, rfl, trivial⟩ rfl fun i2 hi2 => ?_
    ((conv => whnf); (repeat ((first | refine LdN.one (a := some ⟨cb, 0, none⟩) (q := 0) (xs := [_, _, _, _, _]) _ rfl (fun w hw => hw.2.2.2.1) rfl ?_ | refine LdN.one (a := some ⟨cb, 0, none⟩) (q := 1) (xs := [_, _, _, _, _]) _ rfl (fun w hw => hw.2.2.2.1) rfl ?_ | refine LdN.one (a := some ⟨cb, 0, none⟩) (q := 2) (xs := [_, _, _, _, _]) _ rfl (fun w hw => hw.2.2.2.1) rfl ?_ | refine LdN.one (a := some ⟨cb, 0, none⟩) (q := 3) (xs := [_, _, _, _, _]) _ rfl (fun w hw => hw.2.2.2.1) rfl ?_ | refine LdN.one (a := some ⟨cb, 0, none⟩) (q := 4) (xs := [_, _, _, _, _]) _ rfl (fun w hw => hw.2.2.2.1) rfl ?_ | refine RwN.own ?_ | refine VrN.norm (wrap_i64 (by omega)) ?_ | refine VrN.keep ?_ | refine Nd.mk (by decide +kernel) ?_ | refine Nd.mk (by omega) ?_ | (refine Nd.mk ?_ ?_; focus ((repeat' (first | exact trivial | exact wkE_refl _ | refine And.intro ?_ ?_)); done)) | refine RdN.intro _ rfl (by rfl) ?_); (conv => whnf))))
    cases hun : decide ((u : Int) ∈ way) with
    | true =>
      rw [if_pos (of_decide_eq_true hun)]
      ((conv => whnf); (repeat ((first | refine LdN.one (a := some ⟨cb, 0, none⟩) (q := 0) (xs := [_, _, _, _, _]) _ rfl (fun w hw => hw.2.2.2.1) rfl ?_ | refine LdN.one (a := some ⟨cb, 0, none⟩) (q := 1) (xs := [_, _, _, _, _]) _ rfl (fun w hw => hw.2.2.2.1) rfl ?_ | refine LdN.one (a := some ⟨cb, 0, none⟩) (q := 2) (xs := [_, _, _, _, _]) _ rfl (fun w hw => hw.2.2.2.1) rfl ?_ | refine LdN.one (a := some ⟨cb, 0, none⟩) (q := 3) (xs := [_, _, _, _, _]) _ rfl (fun w hw => hw.2.2.2.1) rfl ?_ | refine LdN.one (a := some ⟨cb, 0, none⟩) (q := 4) (xs := [_, _, _, _, _]) _ rfl (fun w hw => hw.2.2.2.1) rfl ?_ | refine RwN.own ?_ | refine VrN.norm (wrap_i64 (by omega)) ?_ | refine VrN.keep ?_ | refine Nd.mk (by decide +kernel) ?_ | refine Nd.mk (by omega) ?_ | (refine Nd.mk ?_ ?_; focus ((repeat' (first | exact trivial | exact wkE_refl _ | refine And.intro ?_ ?_)); done)) | refine RdN.intro _ rfl (by rfl) ?_); (conv => whnf))))
      -- out ++ ([35, 60] ++ text): what is there, [32, 46, 46, 46]: what is written, i2: the Builder's place, hi2: its word, i3: the place behind
      refine callG (WriteString_w _ _ way2 ⟨some wb, wc⟩ true (out ++ ([35, 60] ++ text)) ([32, 46, 46, 46]) i2 hi2 (by first | omega | (simp; omega))) [0, 1, 2, 3] rfl ⟨rfl, rfl, rfl, rfl, trivial⟩ rfl fun i3 hi3 => ?_
      ((conv => whnf); (repeat ((first | refine LdN.one (a := some ⟨cb, 0, none⟩) (q := 0) (xs := [_, _, _, _, _]) _ rfl (fun w hw => hw.2.2.2.1) rfl ?_ | refine LdN.one (a := some ⟨cb, 0, none⟩) (q := 1) (xs := [_, _, _, _, _]) _ rfl (fun w hw => hw.2.2.2.1) rfl ?_ | refine LdN.one (a := some ⟨cb, 0, none⟩) (q := 2) (xs := [_, _, _, _, _]) _ rfl (fun w hw => hw.2.2.2.1) rfl ?_ | refine LdN.one (a := some ⟨cb, 0, none⟩) (q := 3) (xs := [_, _, _, _, _]) _ rfl (fun w hw => hw.2.2.2.1) rfl ?_ | refine LdN.one (a := some ⟨cb, 0, none⟩) (q := 4) (xs := [_, _, _, _, _]) _ rfl (fun w hw => hw.2.2.2.1) rfl ?_ | refine RwN.own ?_ | refine VrN.norm (wrap_i64 (by omega)) ?_ | refine VrN.keep ?_ | refine Nd.mk (by decide +kernel) ?_ | refine Nd.mk (by omega) ?_ | (refine Nd.mk ?_ ?_; focus ((repeat' (first | exact trivial | exact wkE_refl _ | refine And.intro ?_ ?_)); done)) | refine RdN.intro _ rfl (by rfl) ?_); (conv => whnf))))
      -- out ++ ([35, 60] ++ text) ++ [32, 46, 46, 46]: what is there, [62]: what is written, i3: the Builder's place, hi3: its word, i4: the place behind
      refine callG (WriteString_w _ _ way2 ⟨some wb, wc⟩ true (out ++ ([35, 60] ++ text) ++ [32, 46, 46, 46]) ([62]) i3 hi3 (by first | omega | (simp; omega))) [0, 1, 2, 3] rfl ⟨rfl, rfl, rfl, rfl, trivial⟩ rfl fun i4 hi4 => ?_
      ((conv => whnf); (repeat ((first | refine LdN.one (a := some ⟨cb, 0, none⟩) (q := 0) (xs := [_, _, _, _, _]) _ rfl (fun w hw => hw.2.2.2.1) rfl ?_ | refine LdN.one (a := some ⟨cb, 0, none⟩) (q := 1) (xs := [_, _, _, _, _]) _ rfl (fun w hw => hw.2.2.2.1) rfl ?_ | refine LdN.one (a := some ⟨cb, 0, none⟩) (q := 2) (xs := [_, _, _, _, _]) _ rfl (fun w hw => hw.2.2.2.1) rfl ?_ | refine LdN.one (a := some ⟨cb, 0, none⟩) (q := 3) (xs := [_, _, _, _, _]) _ rfl (fun w hw => hw.2.2.2.1) rfl ?_ | refine LdN.one (a := some ⟨cb, 0, none⟩) (q := 4) (xs := [_, _, _, _, _]) _ rfl (fun w hw => hw.2.2.2.1) rfl ?_ | refine RwN.own ?_ | refine VrN.norm (wrap_i64 (by omega)) ?_ | refine VrN.keep ?_ | refine Nd.mk (by decide +kernel) ?_ | refine Nd.mk (by omega) ?_ | (refine Nd.mk ?_ ?_; focus ((repeat' (first | exact trivial | exact wkE_refl _ | refine And.intro ?_ ?_)); done)) | refine RdN.intro _ rfl (by rfl) ?_); (conv => whnf))))
      -- i4: the Builder's place
      refine DrawN.plan [0, 1, 5] [(2, 1), (3, 1), (4, 1), (6, 1), (7, 1), (8, 1), (9, 1), (10, 1), (11, 1), (12, 1), (13, 1)] [(14, 0)] (by decide +kernel) ?_
      ((conv => whnf); (repeat ((first | refine BoxN.own ?_ | refine RwN.own ?_ | refine VrN.norm (wrap_i64 (by omega)) ?_ | refine VrN.keep ?_ | refine Nd.mk (by decide +kernel) ?_ | refine Nd.mk (by omega) ?_ | (refine Nd.mk ?_ ?_; focus ((repeat' (first | exact trivial | exact wkE_refl _ | refine And.intro ?_ ?_)); done)) | refine RdN.intro _ rfl (by rfl) ?_); (conv => whnf))))
      rw [show IntKind.i64.wrap ((way2.length : Int) - 1) = (way.length : Int) by rw [wrap_i64 (by omega)]; omega]
      refine ReadW.slc_hi rfl (by kernel_rfl) rfl rfl (by show (0 : Int) ≤ (way.length : Int) ∧ (way.length : Int) ≤ (wc : Int); omega) ?_
      rw [Int.toNat_natCast]
      ((conv => whnf); (repeat ((first | refine BoxN.own ?_ | refine RwN.own ?_ | refine VrN.norm (wrap_i64 (by omega)) ?_ | refine VrN.keep ?_ | refine Nd.mk (by decide +kernel) ?_ | refine Nd.mk (by omega) ?_ | (refine Nd.mk ?_ ?_; focus ((repeat' (first | exact trivial | exact wkE_refl _ | refine And.intro ?_ ?_)); done)) | refine RdN.intro _ rfl (by rfl) ?_); (conv => whnf))))
      refine ⟨(i4, ⟨some wb, wc⟩), ⟨hi4, (fun h => by cases h), by show way.length ≤ wc; omega, fun h => by have : wc = 0 := h; omega⟩, rfl, ⟨rfl, rfl, rfl, rfl, rfl, trivial⟩, wkE_refl _, .inr (.inr ⟨rfl, rfl, ?_, rfl, by omega, rfl⟩), wkE_refl _, trivial⟩
      rw [hway2, Nat.mul_one]
      simp [iC]
    | false =>
    rw [if_neg (of_decide_eq_false hun)]
    ((conv => whnf); (repeat ((first | refine LdN.one (a := some ⟨cb, 0, none⟩) (q := 0) (xs := [_, _, _, _, _]) _ rfl (fun w hw => hw.2.2.2.1) rfl ?_ | refine LdN.one (a := some ⟨cb, 0, none⟩) (q := 1) (xs := [_, _, _, _, _]) _ rfl (fun w hw => hw.2.2.2.1) rfl ?_ | refine LdN.one (a := some ⟨cb, 0, none⟩) (q := 2) (xs := [_, _, _, _, _]) _ rfl (fun w hw => hw.2.2.2.1) rfl ?_ | refine LdN.one (a := some ⟨cb, 0, none⟩) (q := 3) (xs := [_, _, _, _, _]) _ rfl (fun w hw => hw.2.2.2.1) rfl ?_ | refine LdN.one (a := some ⟨cb, 0, none⟩) (q := 4) (xs := [_, _, _, _, _]) _ rfl (fun w hw => hw.2.2.2.1) rfl ?_ | refine RwN.own ?_ | refine VrN.norm (wrap_i64 (by omega)) ?_ | refine VrN.keep ?_ | refine Nd.mk (by decide +kernel) ?_ | refine Nd.mk (by omega) ?_ | (refine Nd.mk ?_ ?_; focus ((repeat' (first | exact trivial | exact wkE_refl _ | refine And.intro ?_ ?_)); done)) | refine RdN.intro _ rfl (by rfl) ?_); (conv => whnf))))
    -- 8: the kind, [35, 60] ++ text: the front
    rw [← hway2]
    have hnd2 : way2.Nodup := by
      rw [hway2]
      exact List.nodup_append.2 ⟨hw, by simp, fun x hx y hy => by
        rw [List.mem_singleton.1 hy]
        intro e
        subst e
        exact of_decide_eq_false hun hx⟩
    have hr2 : ∀ x ∈ way2, 0 ≤ x ∧ x < (l.length : Int) := fun x hx => by
      rw [hway2] at hx
      rcases List.mem_append.1 hx with hx | hx
      · exact hr x hx
      · rw [List.mem_singleton.1 hx]; omega
    obtain ⟨ff, hff⟩ : ∃ ff, ff = fun o k => writeS 20000 (leafS qt it) (l.map (·.c)) m o way2 k := ⟨_, rfl⟩
    rw [← hff]
    have hfx : ∀ o x, ff o x = writeS 20000 (leafS qt it) (l.map (·.c)) m o way2 x := fun o x => by rw [hff]
    have hpre : ∀ i, (preT (Cell.mk 8 num text names items) i).length ≤ 50 := fun i => by
      have := pre_le hsh (u : Int) i
      rw [hat] at this
      exact this
    have hfold : ∀ k, (foldT ff (preT (Cell.mk 8 num text names items)) 0 (items.take k) (out ++ ([35, 60] ++ text))).length ≤ 130000000 := fun k => by
      have hfl : (out ++ ([35, 60] ++ text)).length ≤ out.length + 2002 := by simp; try omega
      have := foldT_len (M := 20000) (f := ff) (pre := preT (Cell.mk 8 num text names items)) (p := 50) (X := 20000 + m * 200000) hpre (by omega) (fun o k ho => by rw [hff]; exact write_same m o _ k ho) (fun o k ho => by rw [hff]; have := write_len (M := 20000) hsh m o way2 k; show (writeS _ _ _ _ _ _ _).length ≤ _; omega) (items.take k) 0 (out ++ ([35, 60] ++ text)) (22002 + m * 200000) (by omega) (by omega)
      rw [List.length_take] at this
      omega
    refine LoopN.intro (Nat × BSt × BSt) (fun ⟨k, i, j⟩ => k ≤ items.length ∧ i.ok (foldT ff (preT (Cell.mk 8 num text names items)) 0 (items.take k) (out ++ ([35, 60] ++ text))).length ∧ j.ok way2.length) (fun ⟨k, _, _⟩ => mkS Tryz.f99.ntmps 0 [(0, .c (.lp 0 0)), (5, .c (.v (.pointer (some ⟨cb, 0, none⟩)))), (8, .c (.v (.string (bs [62])))), (57, .c (.v (.slice ia items.length ic))), (58, .c (.v (.int .i64 (items.length : Int)))), (59, .c (.v (.int .i64 (k : Int))))])
      (fun ⟨k, i, j⟩ => wH (.slice a l.length ca) (gF a l E) true (foldT ff (preT (Cell.mk 8 num text names items)) 0 (items.take k) (out ++ ([35, 60] ++ text))) i way2 j ++ [.dead, .app 42 5 [.int .i64 8, .int .i64 num, .string (bs text), .slice na names.length nc, .slice ia items.length ic] (some ⟨cb, 0, none⟩) 1 1, .dead]) (fun ⟨k, _, _⟩ => items.length - k) [] rfl (fun ⟨_, _, _⟩ => rfl) (fun ⟨_, _, _⟩ => rfl) (fun ⟨_, _, _⟩ _ => okHB_eq rfl) ?_ ?_
    · refine ⟨(0, i2, ⟨some wb, wc⟩), ⟨Nat.zero_le _, hi2, (fun h => by cases h), by show way2.length ≤ wc; omega, fun h => by have : wc = 0 := h; omega⟩, ?_, wkE_refl _, wkE_refl _, wkE_refl _, wkE_refl _, trivial, wkE_refl _, trivial, trivial⟩
      (repeat' (first | exact trivial | refine And.intro (by with_reducible rfl) ?_ | (with_reducible exact wkC_refl _) | (with_reducible exact wkCs_refl _) | refine And.intro ?_ ?_))
      all_goals rfl
    rintro ⟨k, i3, j3⟩ ⟨hk3, hi3, hj3⟩
    ((conv => whnf); (repeat ((first | refine LdN.one (a := some ⟨cb, 0, none⟩) (q := 0) (xs := [_, _, _, _, _]) _ rfl (fun w hw => hw.2.2.2.1) rfl ?_ | refine LdN.one (a := some ⟨cb, 0, none⟩) (q := 1) (xs := [_, _, _, _, _]) _ rfl (fun w hw => hw.2.2.2.1) rfl ?_ | refine LdN.one (a := some ⟨cb, 0, none⟩) (q := 2) (xs := [_, _, _, _, _]) _ rfl (fun w hw => hw.2.2.2.1) rfl ?_ | refine LdN.one (a := some ⟨cb, 0, none⟩) (q := 3) (xs := [_, _, _, _, _]) _ rfl (fun w hw => hw.2.2.2.1) rfl ?_ | refine LdN.one (a := some ⟨cb, 0, none⟩) (q := 4) (xs := [_, _, _, _, _]) _ rfl (fun w hw => hw.2.2.2.1) rfl ?_ | refine RwN.own ?_ | refine VrN.norm (wrap_i64 (by omega)) ?_ | refine VrN.keep ?_ | refine Nd.mk (by decide +kernel) ?_ | refine Nd.mk (by omega) ?_ | (refine Nd.mk ?_ ?_; focus ((repeat' (first | exact trivial | exact wkE_refl _ | refine And.intro ?_ ?_)); done)) | refine RdN.intro _ rfl (by rfl) ?_); (conv => whnf))))
    refine brd_dec (fun h1 => ?_) (fun h1 => ?_)
    · obtain ⟨x, hx⟩ : ∃ x, items[k]? = some x := ⟨_, List.getElem?_eq_getElem (by omega)⟩
      have hxin := cellD_in hcd x (List.mem_of_getElem? hx)
      obtain ⟨xn, rfl⟩ : ∃ xn : Nat, x = (xn : Int) := ⟨x.toNat, by omega⟩
      have hx1 : xn < l.length := by omega
      have hsi : ia.isSome = true := by
        have := hpo.ia
        cases ia with
        | none =>
          have h0 : items = [] := this rfl
          rw [h0] at hx
          cases hx
        | some b => rfl
      have hln : names.length = items.length := cellD_lens hcd rfl
      obtain ⟨nm, hnm⟩ : ∃ nm, names[k]? = some nm := ⟨_, List.getElem?_eq_getElem (by omega)⟩
      have hnl40 : nm.length ≤ 40 := cellD_names hcd nm (List.mem_of_getElem? hnm)
      have hsn : na.isSome = true := by
        have := hpo.na
        cases na with
        | none =>
          have h0 : names = [] := this rfl
          rw [h0] at hnm
          cases hnm
        | some b => rfl
      ((conv => whnf); (repeat ((first | refine LdN.one (a := some ⟨cb, 0, none⟩) (q := 0) (xs := [_, _, _, _, _]) _ rfl (fun w hw => hw.2.2.2.1) rfl ?_ | refine LdN.one (a := some ⟨cb, 0, none⟩) (q := 1) (xs := [_, _, _, _, _]) _ rfl (fun w hw => hw.2.2.2.1) rfl ?_ | refine LdN.one (a := some ⟨cb, 0, none⟩) (q := 2) (xs := [_, _, _, _, _]) _ rfl (fun w hw => hw.2.2.2.1) rfl ?_ | refine LdN.one (a := some ⟨cb, 0, none⟩) (q := 3) (xs := [_, _, _, _, _]) _ rfl (fun w hw => hw.2.2.2.1) rfl ?_ | refine LdN.one (a := some ⟨cb, 0, none⟩) (q := 4) (xs := [_, _, _, _, _]) _ rfl (fun w hw => hw.2.2.2.1) rfl ?_ | refine RwN.own ?_ | refine VrN.norm (wrap_i64 (by omega)) ?_ | refine VrN.keep ?_ | refine Nd.mk (by decide +kernel) ?_ | refine Nd.mk (by omega) ?_ | (refine Nd.mk ?_ ?_; focus ((repeat' (first | exact trivial | exact wkE_refl _ | refine And.intro ?_ ?_)); done)) | refine RdN.intro _ rfl (by rfl) ?_); (conv => whnf))))
      refine Nd.mk ⟨hsi, by omega, by omega⟩ ?_
      ((conv => whnf); (repeat ((first | refine LdN.one (a := some ⟨cb, 0, none⟩) (q := 0) (xs := [_, _, _, _, _]) _ rfl (fun w hw => hw.2.2.2.1) rfl ?_ | refine LdN.one (a := some ⟨cb, 0, none⟩) (q := 1) (xs := [_, _, _, _, _]) _ rfl (fun w hw => hw.2.2.2.1) rfl ?_ | refine LdN.one (a := some ⟨cb, 0, none⟩) (q := 2) (xs := [_, _, _, _, _]) _ rfl (fun w hw => hw.2.2.2.1) rfl ?_ | refine LdN.one (a := some ⟨cb, 0, none⟩) (q := 3) (xs := [_, _, _, _, _]) _ rfl (fun w hw => hw.2.2.2.1) rfl ?_ | refine LdN.one (a := some ⟨cb, 0, none⟩) (q := 4) (xs := [_, _, _, _, _]) _ rfl (fun w hw => hw.2.2.2.1) rfl ?_ | refine RwN.own ?_ | refine VrN.norm (wrap_i64 (by omega)) ?_ | refine VrN.keep ?_ | refine Nd.mk (by decide +kernel) ?_ | refine Nd.mk (by omega) ?_ | (refine Nd.mk ?_ ?_; focus ((repeat' (first | exact trivial | exact wkE_refl _ | refine And.intro ?_ ?_)); done)) | refine RdN.intro _ rfl (by rfl) ?_); (conv => whnf))))
      refine LdN.one (.int .i64 (xn : Int)) rfl (fun w hw => (hw.2.2.1.1.2 _ hpm).2) (by rw [Int.toNat_natCast]; show (iC items)[k * 1]? = _; rw [Nat.mul_one]; exact iC_get hx) ?_
      ((conv => whnf); (repeat ((first | refine LdN.one (a := some ⟨cb, 0, none⟩) (q := 0) (xs := [_, _, _, _, _]) _ rfl (fun w hw => hw.2.2.2.1) rfl ?_ | refine LdN.one (a := some ⟨cb, 0, none⟩) (q := 1) (xs := [_, _, _, _, _]) _ rfl (fun w hw => hw.2.2.2.1) rfl ?_ | refine LdN.one (a := some ⟨cb, 0, none⟩) (q := 2) (xs := [_, _, _, _, _]) _ rfl (fun w hw => hw.2.2.2.1) rfl ?_ | refine LdN.one (a := some ⟨cb, 0, none⟩) (q := 3) (xs := [_, _, _, _, _]) _ rfl (fun w hw => hw.2.2.2.1) rfl ?_ | refine LdN.one (a := some ⟨cb, 0, none⟩) (q := 4) (xs := [_, _, _, _, _]) _ rfl (fun w hw => hw.2.2.2.1) rfl ?_ | refine RwN.own ?_ | refine VrN.norm (wrap_i64 (by omega)) ?_ | refine VrN.keep ?_ | refine Nd.mk (by decide +kernel) ?_ | refine Nd.mk (by omega) ?_ | (refine Nd.mk ?_ ?_; focus ((repeat' (first | exact trivial | exact wkE_refl _ | refine And.intro ?_ ?_)); done)) | refine RdN.intro _ rfl (by rfl) ?_); (conv => whnf))))
      refine DrawN.planK hm (fun w => SlAt (some ⟨cb, 0, none⟩) 5 [.int .i64 8, .int .i64 num, .string (bs text), .slice na names.length nc, .slice ia items.length ic] w ∧ SlAt na (names.length * 1) (strC names) w) [3] [0, 4, 8, 10] [(1, 1), (2, 1), (5, 1), (9, 1), (11, 1), (12, 1), (3, 2), (6, 0), (7, 0), (13, 0), (14, 0), (15, 0)] (by decide +kernel) (fun w hw => ⟨hw.2.2.2.1, (hw.2.2.1.1.2 _ hpm).1⟩) ?_
      -- fun w hw => ⟨hw.2.2.2.1, (hw.2.2.1.1.2 _ hpm).1⟩: why the kind holds
      ((conv => whnf); (repeat ((first | refine Nd.mk (fun w hw => ⟨hw.2.2.2.1, (hw.2.2.1.1.2 _ hpm).1⟩) ?_ | refine VrN.norm (wrap_i64 (by omega)) ?_ | refine VrN.keep ?_ | refine Nd.mk (by decide +kernel) ?_ | refine Nd.mk (by omega) ?_ | refine RdN.intro _ rfl (by rfl) ?_); (conv => whnf))))
      refine BlindW.min2 (x := .tmp 68) (y := .const (.int .i64 1)) (a := (k : Int)) (b := 1) rfl rfl ?_ rfl ?_
      · rfl
      -- fun w hw => ⟨hw.2.2.2.1, (hw.2.2.1.1.2 _ hpm).1⟩: why the kind holds
      ((conv => whnf); (repeat ((first | refine Nd.mk (fun w hw => ⟨hw.2.2.2.1, (hw.2.2.1.1.2 _ hpm).1⟩) ?_ | refine VrN.norm (wrap_i64 (by omega)) ?_ | refine VrN.keep ?_ | refine Nd.mk (by decide +kernel) ?_ | refine Nd.mk (by omega) ?_ | refine RdN.intro _ rfl (by rfl) ?_); (conv => whnf))))
      refine ReadC.one (T := 40) (x := .tmp 72) (a := some ⟨cb, 0, none⟩) (q := 3) (k := 5) (xs := [.int .i64 8, .int .i64 num, .string (bs text), .slice na names.length nc, .slice ia items.length ic]) (.slice na names.length nc) ?_ ?_ ?_ ?_ ?_ ?_
      · rfl
      · rfl
      · rfl
      · exact fun w hw => hw.1
      · rfl
      -- fun w hw => ⟨hw.2.2.2.1, (hw.2.2.1.1.2 _ hpm).1⟩: why the kind holds
      ((conv => whnf); (repeat ((first | refine Nd.mk (fun w hw => ⟨hw.2.2.2.1, (hw.2.2.1.1.2 _ hpm).1⟩) ?_ | refine VrN.norm (wrap_i64 (by omega)) ?_ | refine VrN.keep ?_ | refine Nd.mk (by decide +kernel) ?_ | refine Nd.mk (by omega) ?_ | refine RdN.intro _ rfl (by rfl) ?_); (conv => whnf))))
      refine ReadC.idxA (T := 40) (x := .tmp 73) (i := .tmp 74) (kk := .i64) (e := 9) (sz := 1) (a := na) (n := names.length) (cap := nc) k rfl Tryz.underlying40 rfl rfl ?_ ?_ hsn (by omega) ?_
      · rfl
      · rfl
      -- fun w hw => ⟨hw.2.2.2.1, (hw.2.2.1.1.2 _ hpm).1⟩: why the kind holds
      ((conv => whnf); (repeat ((first | refine Nd.mk (fun w hw => ⟨hw.2.2.2.1, (hw.2.2.1.1.2 _ hpm).1⟩) ?_ | refine VrN.norm (wrap_i64 (by omega)) ?_ | refine VrN.keep ?_ | refine Nd.mk (by decide +kernel) ?_ | refine Nd.mk (by omega) ?_ | refine RdN.intro _ rfl (by rfl) ?_); (conv => whnf))))
      refine ReadC.one (T := 9) (x := .tmp 75) (a := na) (q := k * 1) (k := names.length * 1) (xs := strC names) (.string (bs nm)) ?_ ?_ ?_ ?_ ?_ ?_
      · rfl
      · rfl
      · rfl
      · exact fun w hw => hw.2
      · rw [Nat.mul_one]; exact strC_get hnm
      -- fun w hw => ⟨hw.2.2.2.1, (hw.2.2.1.1.2 _ hpm).1⟩: why the kind holds
      ((conv => whnf); (repeat ((first | refine Nd.mk (fun w hw => ⟨hw.2.2.2.1, (hw.2.2.1.1.2 _ hpm).1⟩) ?_ | refine VrN.norm (wrap_i64 (by omega)) ?_ | refine VrN.keep ?_ | refine Nd.mk (by decide +kernel) ?_ | refine Nd.mk (by omega) ?_ | refine RdN.intro _ rfl (by rfl) ?_); (conv => whnf))))
      intro rb
      -- fun w hw => ⟨hw.2.2.2.1, (hw.2.2.1.1.2 _ hpm).1⟩: why the kind holds
      ((conv => whnf); (repeat ((first | refine Nd.mk (fun w hw => ⟨hw.2.2.2.1, (hw.2.2.1.1.2 _ hpm).1⟩) ?_ | refine VrN.norm (wrap_i64 (by omega)) ?_ | refine VrN.keep ?_ | refine Nd.mk (by decide +kernel) ?_ | refine Nd.mk (by omega) ?_ | refine RdN.intro _ rfl (by rfl) ?_); (conv => whnf))))
      refine Nd.mk ⟨rfl, by unfold minI; split <;> omega, by unfold minI; split <;> omega⟩ ?_
      -- fun w hw => ⟨hw.2.2.2.1, (hw.2.2.1.1.2 _ hpm).1⟩: why the kind holds
      ((conv => whnf); (repeat ((first | refine Nd.mk (fun w hw => ⟨hw.2.2.2.1, (hw.2.2.1.1.2 _ hpm).1⟩) ?_ | refine VrN.norm (wrap_i64 (by omega)) ?_ | refine VrN.keep ?_ | refine Nd.mk (by decide +kernel) ?_ | refine Nd.mk (by omega) ?_ | refine RdN.intro _ rfl (by rfl) ?_); (conv => whnf))))
      obtain ⟨sp, hsp⟩ : ∃ sp : List UInt8, sp = if k = 0 then [32] else [44, 32] := ⟨_, rfl⟩
      have hspl : sp.length ≤ 2 := by rw [hsp]; split <;> simp
      refine LdN.one (a := some ⟨rb, 0, none⟩) (xs := [.string { data := #[32] }, .string { data := #[44, 32] }]) (.string (bs sp)) rfl (fun w hw => hw.2.2.2.2.1) ?_ ?_
      · rw [hsp]
        rcases Nat.eq_zero_or_pos k with hk0 | hk0
        · rw [if_pos hk0, hk0]; rfl
        · rw [if_neg (by omega), show minI (k : Int) 1 = if k = 1 then 1 else 1 by unfold minI; split <;> split <;> omega]
          split <;> rfl
      -- fun w hw => ⟨hw.2.2.2.1, (hw.2.2.1.1.2 _ hpm).1⟩: why the kind holds
      ((conv => whnf); (repeat ((first | refine Nd.mk (fun w hw => ⟨hw.2.2.2.1, (hw.2.2.1.1.2 _ hpm).1⟩) ?_ | refine VrN.norm (wrap_i64 (by omega)) ?_ | refine VrN.keep ?_ | refine Nd.mk (by decide +kernel) ?_ | refine Nd.mk (by omega) ?_ | refine RdN.intro _ rfl (by rfl) ?_); (conv => whnf))))
      refine Nd.mk (by rw [bs_size, bs_size]; omega) ?_
      rw [bs_app]
      -- fun w hw => ⟨hw.2.2.2.1, (hw.2.2.1.1.2 _ hpm).1⟩: why the kind holds
      ((conv => whnf); (repeat ((first | refine Nd.mk (fun w hw => ⟨hw.2.2.2.1, (hw.2.2.1.1.2 _ hpm).1⟩) ?_ | refine VrN.norm (wrap_i64 (by omega)) ?_ | refine VrN.keep ?_ | refine Nd.mk (by decide +kernel) ?_ | refine Nd.mk (by omega) ?_ | refine RdN.intro _ rfl (by rfl) ?_); (conv => whnf))))
      refine Nd.mk (by show (bs (sp ++ nm)).size + 1 < _; rw [bs_size]; simp; omega) ?_
      rw [show (bs (sp ++ nm) ++ ({ data := #[61] } : ByteArray)) = bs (sp ++ nm ++ [61]) by rw [← bs_app]; rfl]
      -- fun w hw => ⟨hw.2.2.2.1, (hw.2.2.1.1.2 _ hpm).1⟩: why the kind holds
      ((conv => whnf); (repeat ((first | refine Nd.mk (fun w hw => ⟨hw.2.2.2.1, (hw.2.2.1.1.2 _ hpm).1⟩) ?_ | refine VrN.norm (wrap_i64 (by omega)) ?_ | refine VrN.keep ?_ | refine Nd.mk (by decide +kernel) ?_ | refine Nd.mk (by omega) ?_ | refine RdN.intro _ rfl (by rfl) ?_); (conv => whnf))))
      have hnd : names.getD k [] = nm := by rw [List.getD_eq_getElem?_getD, hnm]; rfl
      refine callG (WriteString_w _ _ way2 j3 true (foldT ff (preT (Cell.mk 8 num text names items)) 0 (items.take k) (out ++ ([35, 60] ++ text))) (sp ++ nm ++ [61]) i3 hi3 (by have := hfold k; simp only [List.length_append, List.length_cons, List.length_nil] at this ⊢; omega)) [0, 1, 2, 3] rfl ⟨rfl, rfl, rfl, rfl, trivial⟩ rfl fun i6 hi6 => ?_
      -- fun w hw => ⟨hw.2.2.2.1, (hw.2.2.1.1.2 _ hpm).1⟩: why the kind holds
      ((conv => whnf); (repeat ((first | refine Nd.mk (fun w hw => ⟨hw.2.2.2.1, (hw.2.2.1.1.2 _ hpm).1⟩) ?_ | refine VrN.norm (wrap_i64 (by omega)) ?_ | refine VrN.keep ?_ | refine Nd.mk (by decide +kernel) ?_ | refine Nd.mk (by omega) ?_ | refine RdN.intro _ rfl (by rfl) ?_); (conv => whnf))))
      ((conv => whnf); (repeat ((first | refine LdN.one (a := some ⟨cb, 0, none⟩) (q := 0) (xs := [_, _, _, _, _]) _ rfl (fun w hw => hw.2.2.2.1) rfl ?_ | refine LdN.one (a := some ⟨cb, 0, none⟩) (q := 1) (xs := [_, _, _, _, _]) _ rfl (fun w hw => hw.2.2.2.1) rfl ?_ | refine LdN.one (a := some ⟨cb, 0, none⟩) (q := 2) (xs := [_, _, _, _, _]) _ rfl (fun w hw => hw.2.2.2.1) rfl ?_ | refine LdN.one (a := some ⟨cb, 0, none⟩) (q := 3) (xs := [_, _, _, _, _]) _ rfl (fun w hw => hw.2.2.2.1) rfl ?_ | refine LdN.one (a := some ⟨cb, 0, none⟩) (q := 4) (xs := [_, _, _, _, _]) _ rfl (fun w hw => hw.2.2.2.1) rfl ?_ | refine RwN.own ?_ | refine VrN.norm (wrap_i64 (by omega)) ?_ | refine VrN.keep ?_ | refine Nd.mk (by decide +kernel) ?_ | refine Nd.mk (by omega) ?_ | (refine Nd.mk ?_ ?_; focus ((repeat' (first | exact trivial | exact wkE_refl _ | refine And.intro ?_ ?_)); done)) | refine RdN.intro _ rfl (by rfl) ?_); (conv => whnf))))
      refine callG (ih (by omega) (foldT ff (preT (Cell.mk 8 num text names items)) 0 (items.take k) (out ++ ([35, 60] ++ text)) ++ (sp ++ nm ++ [61])) way2 i6 j3 xn hi6 hj3 hx1 hnd2 hr2 (by omega) (by have := hfold k; simp only [List.length_append, List.length_cons, List.length_nil] at this ⊢; omega)) [0, 1, 2, 3] rfl ⟨rfl, rfl, rfl, rfl, trivial⟩ rfl fun st hst => ?_
      obtain ⟨i5, j5⟩ := st
      obtain ⟨hi5, hj5⟩ := hst
      simp only at hi5 hj5
      ((conv => whnf); (repeat ((first | refine LdN.one (a := some ⟨cb, 0, none⟩) (q := 0) (xs := [_, _, _, _, _]) _ rfl (fun w hw => hw.2.2.2.1) rfl ?_ | refine LdN.one (a := some ⟨cb, 0, none⟩) (q := 1) (xs := [_, _, _, _, _]) _ rfl (fun w hw => hw.2.2.2.1) rfl ?_ | refine LdN.one (a := some ⟨cb, 0, none⟩) (q := 2) (xs := [_, _, _, _, _]) _ rfl (fun w hw => hw.2.2.2.1) rfl ?_ | refine LdN.one (a := some ⟨cb, 0, none⟩) (q := 3) (xs := [_, _, _, _, _]) _ rfl (fun w hw => hw.2.2.2.1) rfl ?_ | refine LdN.one (a := some ⟨cb, 0, none⟩) (q := 4) (xs := [_, _, _, _, _]) _ rfl (fun w hw => hw.2.2.2.1) rfl ?_ | refine RwN.own ?_ | refine VrN.norm (wrap_i64 (by omega)) ?_ | refine VrN.keep ?_ | refine Nd.mk (by decide +kernel) ?_ | refine Nd.mk (by omega) ?_ | (refine Nd.mk ?_ ?_; focus ((repeat' (first | exact trivial | exact wkE_refl _ | refine And.intro ?_ ?_)); done)) | refine RdN.intro _ rfl (by rfl) ?_); (conv => whnf))))
      have hfs := foldT_take (f := ff) (pre := preT (Cell.mk 8 num text names items)) hx (out ++ ([35, 60] ++ text))
      rw [show preT (Cell.mk 8 num text names items) k = sp ++ nm ++ [61] from by rw [preT_8 rfl, ← hsp]; show sp ++ names.getD k [] ++ [61] = _; rw [hnd], hfx] at hfs
      refine ⟨(k + 1, i5, j5), ⟨by omega, by rw [hfs]; exact hi5, hj5⟩, by show items.length - (k + 1) < items.length - k; omega, ?_, ?_⟩
      · (repeat' (first | exact trivial | refine And.intro (by with_reducible rfl) ?_ | (with_reducible exact wkC_refl _) | (with_reducible exact wkCs_refl _) | refine And.intro ?_ ?_))
        all_goals first | rfl | exact av_int (by rw [wrap_i64 (by omega)]; omega) | exact av_int (by omega)
      · show wkH _ (wH _ _ true (foldT ff _ 0 (items.take (k + 1)) _) _ _ _ ++ _)
        rw [hfs]
        exact ⟨wkE_refl _, wkE_refl _, wkE_refl _, wkE_refl _, trivial, wkE_refl _, trivial, trivial⟩
    · have hin : k = items.length := by omega
      subst hin
      rw [List.take_length] at hi3 ⊢
      have hfe := hfold items.length
      rw [List.take_length] at hfe
      obtain ⟨wb, wc⟩ := j3
      cases wb with
      | none =>
        have := (hj3.1 rfl).1
        omega
      | some wb =>
      have hwc3 : way2.length ≤ wc := hj3.2.1
      ((conv => whnf); (repeat ((first | refine LdN.one (a := some ⟨cb, 0, none⟩) (q := 0) (xs := [_, _, _, _, _]) _ rfl (fun w hw => hw.2.2.2.1) rfl ?_ | refine LdN.one (a := some ⟨cb, 0, none⟩) (q := 1) (xs := [_, _, _, _, _]) _ rfl (fun w hw => hw.2.2.2.1) rfl ?_ | refine LdN.one (a := some ⟨cb, 0, none⟩) (q := 2) (xs := [_, _, _, _, _]) _ rfl (fun w hw => hw.2.2.2.1) rfl ?_ | refine LdN.one (a := some ⟨cb, 0, none⟩) (q := 3) (xs := [_, _, _, _, _]) _ rfl (fun w hw => hw.2.2.2.1) rfl ?_ | refine LdN.one (a := some ⟨cb, 0, none⟩) (q := 4) (xs := [_, _, _, _, _]) _ rfl (fun w hw => hw.2.2.2.1) rfl ?_ | refine RwN.own ?_ | refine VrN.norm (wrap_i64 (by omega)) ?_ | refine VrN.keep ?_ | refine Nd.mk (by decide +kernel) ?_ | refine Nd.mk (by omega) ?_ | (refine Nd.mk ?_ ?_; focus ((repeat' (first | exact trivial | exact wkE_refl _ | refine And.intro ?_ ?_)); done)) | refine RdN.intro _ rfl (by rfl) ?_); (conv => whnf))))
      refine callG (WriteString_w _ _ way2 ⟨some wb, wc⟩ true (foldT ff (preT (Cell.mk 8 num text names items)) 0 items (out ++ ([35, 60] ++ text))) [62] i3 hi3 (by simp only [List.length_cons, List.length_nil]; omega)) [0, 1, 2, 3] rfl ⟨rfl, rfl, rfl, rfl, trivial⟩ rfl fun i7 hi7 => ?_
      ((conv => whnf); (repeat ((first | refine LdN.one (a := some ⟨cb, 0, none⟩) (q := 0) (xs := [_, _, _, _, _]) _ rfl (fun w hw => hw.2.2.2.1) rfl ?_ | refine LdN.one (a := some ⟨cb, 0, none⟩) (q := 1) (xs := [_, _, _, _, _]) _ rfl (fun w hw => hw.2.2.2.1) rfl ?_ | refine LdN.one (a := some ⟨cb, 0, none⟩) (q := 2) (xs := [_, _, _, _, _]) _ rfl (fun w hw => hw.2.2.2.1) rfl ?_ | refine LdN.one (a := some ⟨cb, 0, none⟩) (q := 3) (xs := [_, _, _, _, _]) _ rfl (fun w hw => hw.2.2.2.1) rfl ?_ | refine LdN.one (a := some ⟨cb, 0, none⟩) (q := 4) (xs := [_, _, _, _, _]) _ rfl (fun w hw => hw.2.2.2.1) rfl ?_ | refine RwN.own ?_ | refine VrN.norm (wrap_i64 (by omega)) ?_ | refine VrN.keep ?_ | refine Nd.mk (by decide +kernel) ?_ | refine Nd.mk (by omega) ?_ | (refine Nd.mk ?_ ?_; focus ((repeat' (first | exact trivial | exact wkE_refl _ | refine And.intro ?_ ?_)); done)) | refine RdN.intro _ rfl (by rfl) ?_); (conv => whnf))))
      -- i7: the Builder's place
      refine DrawN.plan [0, 1, 5] [(2, 1), (3, 1), (4, 1), (6, 1), (7, 1), (8, 1), (9, 1), (10, 1), (11, 1), (12, 1), (13, 1)] [(14, 0)] (by decide +kernel) ?_
      ((conv => whnf); (repeat ((first | refine BoxN.own ?_ | refine RwN.own ?_ | refine VrN.norm (wrap_i64 (by omega)) ?_ | refine VrN.keep ?_ | refine Nd.mk (by decide +kernel) ?_ | refine Nd.mk (by omega) ?_ | (refine Nd.mk ?_ ?_; focus ((repeat' (first | exact trivial | exact wkE_refl _ | refine And.intro ?_ ?_)); done)) | refine RdN.intro _ rfl (by rfl) ?_); (conv => whnf))))
      rw [show IntKind.i64.wrap ((way2.length : Int) - 1) = (way.length : Int) by rw [wrap_i64 (by omega)]; omega]
      refine ReadW.slc_hi rfl (by kernel_rfl) rfl rfl (by show (0 : Int) ≤ (way.length : Int) ∧ (way.length : Int) ≤ (wc : Int); omega) ?_
      rw [Int.toNat_natCast]
      ((conv => whnf); (repeat ((first | refine BoxN.own ?_ | refine RwN.own ?_ | refine VrN.norm (wrap_i64 (by omega)) ?_ | refine VrN.keep ?_ | refine Nd.mk (by decide +kernel) ?_ | refine Nd.mk (by omega) ?_ | (refine Nd.mk ?_ ?_; focus ((repeat' (first | exact trivial | exact wkE_refl _ | refine And.intro ?_ ?_)); done)) | refine RdN.intro _ rfl (by rfl) ?_); (conv => whnf))))
      refine ⟨(i7, ⟨some wb, wc⟩), ⟨hi7, (fun h => by cases h), by show way.length ≤ wc; omega, fun h => by have : wc = 0 := h; omega⟩, rfl, ⟨rfl, rfl, rfl, rfl, rfl, trivial⟩, wkE_refl _, .inr (.inr ⟨rfl, rfl, ?_, rfl, by omega, rfl⟩), wkE_refl _, trivial⟩
      rw [hway2, Nat.mul_one]
      simp [iC]
end Go.Proofs.YtahjbnfbilkbcaaGreatDoor

/-
  Contract: Text (program).
-/
namespace Go.Proofs.YtahjbnfbilkbcaaGreatDoor
open Go.AX Go.RowKit Go.Core Go.Scan
set_option maxRecDepth 20000

/-- The text that is told. -/
def textP (lf : Cell → List UInt8) (g : List Cell) (u : Int) : List UInt8 := (writeS 20000 lf g (g.length + 2) [] [] u).take 20000
set_option maxHeartbeats 4000000 in
theorem Text_c {a : Option Addr} (ca : Nat) {l : List CellP} {E : World → Prop} {qt : List UInt8 → List UInt8} {it : Int → List UInt8} (ha : a = none → l = []) (hs : Small l) (hok : ∀ p ∈ l, CellOk p) (V : ValidP (l.map (·.c)) → WEnv a l E qt it) (u : Int) :
    ∀ H, (∀ w, Facts H w → gF a l E w) → ∃ e : Bool, (e = true ↔ AskP (l.map (·.c)) [u]) ∧ SpecH Tryz.prog 20 (pvs [.slice a l.length ca, .int .i64 u]) H (Ret (.tuple #[.string (bs (if e then textP (leafS qt it) (l.map (·.c)) u else [])), errI e]) H) := by
  intro H hH
  obtain ⟨e, he⟩ : ∃ b : Bool, b = true ↔ AskP (l.map (·.c)) [u] := by
    by_cases h : AskP (l.map (·.c)) [u]
    · exact ⟨true, fun _ => h, fun _ => rfl⟩
    · exact ⟨false, (fun h => by cases h), fun h2 => absurd h2 h⟩
  refine ⟨e, he, ?_⟩
  refine factC hm Tryz.func20 (by kernel_rfl) rfl rfl ?_ H hH
  ((conv => whnf); (repeat ((first | refine BoxN.own ?_ | refine VrN.norm (wrap_i64 (by omega)) ?_ | refine VrN.keep ?_ | refine DrawN.calm (by decide +kernel) ?_ | refine Nd.mk (by decide +kernel) ?_ | refine Nd.mk (by omega) ?_ | (refine Nd.mk ?_ ?_; focus ((repeat' (first | exact trivial | exact wkE_refl _ | refine And.intro ?_ ?_)); done)) | refine RdN.intro _ rfl (by rfl) ?_); (conv => whnf))))
  refine RwN.known [.int .i64 u] rfl fun rb => ?_
  ((conv => whnf); (repeat ((first | refine BoxN.own ?_ | refine VrN.norm (wrap_i64 (by omega)) ?_ | refine VrN.keep ?_ | refine DrawN.calm (by decide +kernel) ?_ | refine Nd.mk (by decide +kernel) ?_ | refine Nd.mk (by omega) ?_ | (refine Nd.mk ?_ ?_; focus ((repeat' (first | exact trivial | exact wkE_refl _ | refine And.intro ?_ ?_)); done)) | refine RdN.intro _ rfl (by rfl) ?_); (conv => whnf))))
  obtain ⟨t, ht1, ht2⟩ := asked_c a ca l ha hs hok (some ⟨rb, 0, none⟩) 1 [u] (fun h => by cases h) (by simp) [.fact (gF a l E), .app 3 1 [.int .i64 u] (some ⟨rb, 0, none⟩) 1 1] (fun w hw => ⟨hw.1.1, hw.2.1⟩)
  obtain rfl : t = e := by rw [Bool.eq_iff_iff, ht1, he]
  refine call1 ht2 ?_
  cases t with
  | false =>
    (first | refine wX ?_ | exact wZ)
    rfl
  | true =>
    have hask := he.1 rfl
    have hu := hask.2 u (by simp)
    obtain ⟨v, rfl⟩ : ∃ v : Nat, u = (v : Int) := ⟨u.toNat, by omega⟩
    have hgl : (l.map (·.c)).length = l.length := by simp
    have h500 := hask.1.1
    have hwe := V hask.1
    (first | refine wX ?_ | exact wZ)
    refine SpecH.pad [.app 5 1 [] none 0 0, .app 3 1 [] none 0 0] rfl ?_
    have hok0 : BSt.ok (0 : Nat) ⟨none, 0⟩ := ⟨fun _ => ⟨rfl, rfl⟩, Nat.le_refl _, fun _ => rfl⟩
    refine callG (write_f ca hwe (l.length + 1) (by omega) [] [] ⟨none, 0⟩ ⟨none, 0⟩ v hok0 hok0 (by omega) List.nodup_nil (fun x hx => by cases hx) (by simp) (by simp)) [2, 3, 4, 0] rfl ⟨rfl, rfl, rfl, rfl, trivial⟩ rfl fun st hst => ?_
    obtain ⟨i2, j2⟩ := st
    obtain ⟨hi2, hj2⟩ := hst
    simp only at hi2 hj2
    have htp : textP (leafS qt it) (l.map (·.c)) (v : Int) = (writeS 20000 (leafS qt it) (l.map (·.c)) (l.length + 1 + 1) [] [] (v : Int)).take 20000 := by unfold textP; rw [hgl]
    rw [htp]
    generalize writeS 20000 (leafS qt it) (l.map (·.c)) (l.length + 1 + 1) [] [] (v : Int) = T at *
    (first | refine wX ?_ | exact wZ)
    refine callG (String_w _ _ [] j2 true T i2 hi2) [2, 3, 4, 0] rfl ⟨rfl, rfl, rfl, rfl, trivial⟩ rfl fun _ _ => ?_
    (first | refine wX ?_ | exact wZ)
    rw [bs_size]
    refine ReadW.sl_h (min T.length 20000) rfl Tryz.underlying9 rfl rfl ⟨by unfold minI; split <;> omega, Nat.min_le_left _ _⟩ ?_
    rw [show T.take (min T.length 20000) = T.take 20000 by
      rcases Nat.le_total T.length 20000 with h | h
      · rw [Nat.min_eq_left h, List.take_of_length_le (Nat.le_refl _), List.take_of_length_le h]
      · rw [Nat.min_eq_right h]]
    (first | refine wX ?_ | exact wZ)
    rfl
end Go.Proofs.YtahjbnfbilkbcaaGreatDoor

/-
  Numbers and quoted texts, as both writers write them.
-/
namespace Go.Proofs.YtahjbnfbilkbcaaGreatDoor
open Go.AX Go.RowKit Go.Core Go.Scan
set_option maxRecDepth 20000

/-- The table that strconv reads. -/
def TabF (w : World) : Prop := Lib.TabIs Tryz.prog w "internal/strconv.uint64pow10" .u64 Lib.pow10Tab
def qL (s : List UInt8) : List UInt8 := s.flatMap qt
def itL (x : Int) : List UInt8 := if -9223372036854775808 ≤ x ∧ x ≤ 9223372036854775807 then Lib.itoa x else []
theorem qL_le (s : List UInt8) : (qL s).length ≤ 2 * s.length := flat_le qt_2 s
theorem itL_le (x : Int) : (itL x).length ≤ 30 := by
  unfold itL
  split
  · have := Lib.itoa_length_le x (by omega) (by omega); omega
  · exact Nat.zero_le _
theorem Itoa_c (n : Int) (hn : -9223372036854775808 ≤ n ∧ n ≤ 9223372036854775807) : ∀ H, (∀ w, Facts H w → TabF w) → SpecH Tryz.prog 97 (pvs [.int .i64 n]) H (Ret (.string (bs (itL n))) H) := fun H hF => by
  rw [show itL n = Lib.itoa n from if_pos hn]
  exact SpecH.rawP (R := fun r => r = .string (bs (Lib.itoa n))) (callOk Tryz.func97 (by kernel_rfl) rfl) (fun w hw => (Tryz.strconv_Itoa n (by omega) (by omega) w (hF w hw)).mono fun e w' ⟨he, k, os, hw'⟩ => ⟨_, he, rfl, by subst hw'; exact Lib.below_grow _ _ (Nat.le_refl _) k os⟩) fun r hr => by subst hr; exact ⟨rfl, rfl⟩
theorem cellD_num {n : Nat} {c : Cell} (h : cellD n c = true) (h3 : c.kind = 3) : -9223372036854775808 ≤ c.num ∧ c.num ≤ 9223372036854775807 := by
  unfold cellD at h
  rw [if_pos h3] at h
  simp only [Bool.and_eq_true, decide_eq_true_eq] at h
  have h1 := h.2.1.2
  have h2 := h.2.2
  unfold Go.Core.maxI at h1 h2
  omega
theorem envL {a : Option Addr} {l : List CellP} (ha : a = none → l = []) (hs : Small l) (hok : ∀ p ∈ l, CellOk p) (hv : ValidP (l.map (·.c))) : WEnv a l TabF qL itL := by
  refine ⟨ha, hs, hok, hv, fun p hp h4 H => ?_, qL_le, fun p hp h3 H hH => ?_, itL_le⟩
  · have := cellD_text (hv.2.1 _ (List.mem_map_of_mem hp))
    exact Quote_c p.c.text (by omega) H
  · exact Itoa_c _ (cellD_num (hv.2.1 _ (List.mem_map_of_mem hp)) h3) H hH
end Go.Proofs.YtahjbnfbilkbcaaGreatDoor

/-
  Contract: the document writes a cell.
-/
namespace Go.Core
theorem docS_leaf {M : Nat} {leafT : Cell → List UInt8} {g : List Cell} {n : Nat} {out : List UInt8} {way : List Int} {u : Int} {c : Cell} (hc : at_ g u = c) (hl : isLeaf c = true) : docS M leafT g (n + 1) out way u = out ++ leafT c := by
  subst hc
  conv => lhs; unfold docS
  rw [if_pos hl]
theorem docS_in {M : Nat} {leafT : Cell → List UInt8} {g : List Cell} {n : Nat} {out : List UInt8} {way : List Int} {u : Int} {c : Cell} (hc : at_ g u = c) (hl : ¬ isLeaf c = true) : docS M leafT g (n + 1) out way u = if u ∈ way then out ++ withinT c else
    foldD M (fun o k => docS M leafT g n o (way ++ [u]) k) (preD c) 0 c.items (out ++ firstD c) ++ backT c := by
  subst hc
  conv => lhs; unfold docS
  rw [if_neg hl]
  rfl
theorem foldD_at {M : Nat} {f : List UInt8 → Int → List UInt8} {pre : Nat → List UInt8} {l : List Int} {k : Nat} {x : Int} {out : List UInt8} (h : l[k]? = some x) (ho : out.length < M) : foldD M f pre k (l.drop k) out = foldD M f pre (k + 1) (l.drop (k + 1)) (f (out ++ pre k) x) := by
  have hk := (List.getElem?_eq_some_iff.1 h).1
  rw [List.drop_eq_getElem_cons hk, (List.getElem?_eq_some_iff.1 h).2]
  conv => lhs; unfold foldD
  rw [if_pos ho]
theorem foldD_end {M : Nat} {f : List UInt8 → Int → List UInt8} {pre : Nat → List UInt8} {l : List Int} {k : Nat} {out : List UInt8} (h : ¬ (k < l.length ∧ out.length < M)) : foldD M f pre k (l.drop k) out = out := by
  rcases Nat.lt_or_ge k l.length with h1 | h1
  · rw [List.drop_eq_getElem_cons h1]
    unfold foldD
    rw [if_neg (fun h2 => h ⟨h1, h2⟩)]
  · rw [List.drop_of_length_le h1]; rfl
theorem preD_6 {c : Cell} (h : c.kind = 6) (k : Nat) : preD c k = if 0 < k then [44, 32] else [] := by
  unfold preD
  rw [if_neg (by omega), if_neg (show ¬ c.kind = 8 by omega), List.append_nil]
theorem preD_7 {c : Cell} (h : c.kind = 7) (k : Nat) : preD c k = if k % 2 = 1 then [32, 61, 62, 32] else if 0 < k then [44, 32] else [] := by
  unfold preD
  rw [if_neg (show ¬ c.kind = 8 by omega), List.append_nil]
  by_cases h2 : k % 2 = 1
  · rw [if_pos ⟨h, h2⟩, if_pos h2]
  · rw [if_neg (fun e => h2 e.2), if_neg h2]
theorem preD_8 {c : Cell} (h : c.kind = 8) (k : Nat) : preD c k = (if 0 < k then [44, 32] else []) ++ (c.names.getD k [] ++ [61]) := by
  unfold preD
  rw [if_neg (by omega), if_pos h]
theorem within_le {text : List UInt8} (h : text.length ≤ 2000) (num : Int) (names : List (List UInt8)) (items : List Int) (k : Int) : (withinT ⟨k, num, text, names, items⟩).length ≤ 2010 := by
  have h1 := mark_le (⟨k, num, text, names, items⟩ : Cell)
  have h2 := back_le (⟨k, num, text, names, items⟩ : Cell)
  have h3 : (frontT (⟨k, num, text, names, items⟩ : Cell)).length ≤ 2002 := by
    unfold frontT
    split
    · simp
    split
    · simp; omega
    · simp
  unfold withinT
  simp only [List.length_append]
  omega
end Go.Core
namespace Go.Proofs.YtahjbnfbilkbcaaGreatDoor
open Go.AX Go.RowKit Go.Core Go.Scan
set_option maxRecDepth 20000

section
attribute [local irreducible] Int.decLt
set_option maxHeartbeats 4000000 in
theorem written_c {a : Option Addr} (ca : Nat) {l : List CellP} (V : WEnv a l TabF qL itL) : ∀ (n : Nat) (out : List UInt8) (ub : Option Addr) (uc : Nat) (way : List Int) (u : Nat), u < l.length → (ub = none → way = []) → way.Nodup → (∀ x ∈ way, 0 ≤ x ∧ x < (l.length : Int)) → l.length + 1 ≤ n + way.length → n ≤ 2000 → out.length ≤ 100000 →
    ∀ H, (∀ w, Facts H w → gF a l TabF w ∧ SlAt ub (way.length * 1) (iC way) w) → SpecH Tryz.prog 54 (pvs [.string (bs out), .slice a l.length ca, .int .i64 u, .slice ub way.length uc]) H (Ret (.string (bs (docS 20000 (leafS qL itL) (l.map (·.c)) n out way u))) H) := by
  intro n
  induction n with
  | zero =>
    intro out ub uc way u hu hub hw hr hn
    have := way_le hw hr
    omega
  | succ m ih =>
    intro out ub uc way u hu hub hw hr hn hn2 ho
    obtain ⟨p, hp⟩ : ∃ p, l[u]? = some p := ⟨_, List.getElem?_eq_getElem hu⟩
    have hpm := List.mem_of_getElem? hp
    have hpo := V.ok p hpm
    have hvc := V.val.2.1 _ (List.mem_map_of_mem hpm)
    have hkk := cellD_kind hvc
    have htl := cellD_text hvc
    have hnn := cellD_names hvc
    have hll := cellD_lens hvc
    have hps := V.sm.2 p hpm
    have hsh := V.short
    have hwl := way_le hw hr
    have hl500 := V.val.1
    rw [List.length_map] at hl500
    have hat : at_ (l.map (·.c)) (u : Int) = p.c := by
      unfold at_
      rw [Int.toNat_natCast, List.getD_eq_getElem?_getD, List.getElem?_map, hp]
      rfl
    have hsa : a.isSome = true := by
      cases a with
      | none => rw [V.ha rfl] at hu; exact absurd hu (Nat.not_lt_zero _)
      | some b => rfl
    have hit := V.i p hpm
    have hrange : ∀ x ∈ p.c.items, 0 ≤ x ∧ x < (l.length : Int) := by
      have h1 := hvc
      unfold cellD rangeB at h1
      simp only [Bool.and_eq_true] at h1
      intro x hx
      have := List.all_eq_true.1 h1.1.1 x hx
      simp only [List.length_map, Bool.and_eq_true, decide_eq_true_eq] at this
      omega
    obtain ⟨⟨kind, num, text, names, items⟩, na, nc, ia, ic⟩ := p
    simp only at hkk htl hnn hll hps hat hit hrange
    obtain rfl | rfl | rfl | rfl | rfl | rfl | rfl | rfl | rfl : kind = 0 ∨ kind = 1 ∨ kind = 2 ∨ kind = 3 ∨ kind = 4 ∨ kind = 5 ∨ kind = 6 ∨ kind = 7 ∨ kind = 8 := by omega
    · -- 0: the kind, [110, 105, 108]: the text
      rw [docS_leaf hat rfl]
      -- 0: the kind
      refine factC hm Tryz.func54 (by kernel_rfl) rfl rfl ?_
      (first | refine wX ?_ | exact wZ)
      refine Nd.mk ⟨hsa, by omega, by omega⟩ ?_
      (first | refine wX ?_ | exact wZ)
      refine LdN.agg [.int .i64 0, .int .i64 num, .string (bs text), .slice na names.length nc, .slice ia items.length ic] rfl (fun w hw => hw.1.1.1.1) rfl (fun k hk => by rw [Int.toNat_natCast]; exact grC_get l u k hk hp) ?_
      (first | refine wX ?_ | exact wZ)
      refine Nd.mk (by rw [bs_size]; show _ + ([110, 105, 108] : List UInt8).length < _; simp; omega) ?_
      rw [show (⟨#[110, 105, 108]⟩ : ByteArray) = bs [110, 105, 108] from rfl, bs_app]
      (first | refine wX ?_ | exact wZ)
      rfl
    · -- 1: the kind, [116, 114, 117, 101]: the text
      rw [docS_leaf hat rfl]
      -- 1: the kind
      refine factC hm Tryz.func54 (by kernel_rfl) rfl rfl ?_
      (first | refine wX ?_ | exact wZ)
      refine Nd.mk ⟨hsa, by omega, by omega⟩ ?_
      (first | refine wX ?_ | exact wZ)
      refine LdN.agg [.int .i64 1, .int .i64 num, .string (bs text), .slice na names.length nc, .slice ia items.length ic] rfl (fun w hw => hw.1.1.1.1) rfl (fun k hk => by rw [Int.toNat_natCast]; exact grC_get l u k hk hp) ?_
      (first | refine wX ?_ | exact wZ)
      refine Nd.mk (by rw [bs_size]; show _ + ([116, 114, 117, 101] : List UInt8).length < _; simp; omega) ?_
      rw [show (⟨#[116, 114, 117, 101]⟩ : ByteArray) = bs [116, 114, 117, 101] from rfl, bs_app]
      (first | refine wX ?_ | exact wZ)
      rfl
    · -- 2: the kind, [102, 97, 108, 115, 101]: the text
      rw [docS_leaf hat rfl]
      -- 2: the kind
      refine factC hm Tryz.func54 (by kernel_rfl) rfl rfl ?_
      (first | refine wX ?_ | exact wZ)
      refine Nd.mk ⟨hsa, by omega, by omega⟩ ?_
      (first | refine wX ?_ | exact wZ)
      refine LdN.agg [.int .i64 2, .int .i64 num, .string (bs text), .slice na names.length nc, .slice ia items.length ic] rfl (fun w hw => hw.1.1.1.1) rfl (fun k hk => by rw [Int.toNat_natCast]; exact grC_get l u k hk hp) ?_
      (first | refine wX ?_ | exact wZ)
      refine Nd.mk (by rw [bs_size]; show _ + ([102, 97, 108, 115, 101] : List UInt8).length < _; simp; omega) ?_
      rw [show (⟨#[102, 97, 108, 115, 101]⟩ : ByteArray) = bs [102, 97, 108, 115, 101] from rfl, bs_app]
      (first | refine wX ?_ | exact wZ)
      rfl
    · rw [docS_leaf hat rfl]
      -- 3: the kind
      refine factC hm Tryz.func54 (by kernel_rfl) rfl rfl ?_
      (first | refine wX ?_ | exact wZ)
      refine Nd.mk ⟨hsa, by omega, by omega⟩ ?_
      (first | refine wX ?_ | exact wZ)
      refine LdN.agg [.int .i64 3, .int .i64 num, .string (bs text), .slice na names.length nc, .slice ia items.length ic] rfl (fun w hw => hw.1.1.1.1) rfl (fun k hk => by rw [Int.toNat_natCast]; exact grC_get l u k hk hp) ?_
      (first | refine wX ?_ | exact wZ)
      refine call1 (hit rfl _ (fun w hw => hw.1.1.2)) ?_
      (first | refine wX ?_ | exact wZ)
      have := itL_le num
      refine Nd.mk (by rw [bs_size, bs_size]; omega) ?_
      rw [bs_app]
      (first | refine wX ?_ | exact wZ)
      rfl
    · rw [docS_leaf hat rfl]
      -- 4: the kind
      refine factC hm Tryz.func54 (by kernel_rfl) rfl rfl ?_
      (first | refine wX ?_ | exact wZ)
      refine Nd.mk ⟨hsa, by omega, by omega⟩ ?_
      (first | refine wX ?_ | exact wZ)
      refine LdN.agg [.int .i64 4, .int .i64 num, .string (bs text), .slice na names.length nc, .slice ia items.length ic] rfl (fun w hw => hw.1.1.1.1) rfl (fun k hk => by rw [Int.toNat_natCast]; exact grC_get l u k hk hp) ?_
      (first | refine wX ?_ | exact wZ)
      refine Nd.mk (by rw [bs_size]; show _ + ([34] : List UInt8).length < _; simp; omega) ?_
      rw [show (⟨#[34]⟩ : ByteArray) = bs [34] from rfl, bs_app]
      (first | refine wX ?_ | exact wZ)
      refine call1 (RQuote_c text (by omega) _) ?_
      (first | refine wX ?_ | exact wZ)
      have := qL_le text
      rw [show text.flatMap qt = qL text from rfl]
      refine Nd.mk (by rw [bs_size, bs_size]; simp; omega) ?_
      rw [bs_app]
      (first | refine wX ?_ | exact wZ)
      refine Nd.mk (by rw [bs_size]; show _ + ([34] : List UInt8).length < _; simp; omega) ?_
      rw [bs_app]
      (first | refine wX ?_ | exact wZ)
      rw [show leafS qL itL ⟨4, num, text, names, items⟩ = [34] ++ qL text ++ [34] from rfl]
      simp only [List.append_assoc]
    · rw [docS_leaf hat rfl]
      -- 5: the kind
      refine factC hm Tryz.func54 (by kernel_rfl) rfl rfl ?_
      (first | refine wX ?_ | exact wZ)
      refine Nd.mk ⟨hsa, by omega, by omega⟩ ?_
      (first | refine wX ?_ | exact wZ)
      refine LdN.agg [.int .i64 5, .int .i64 num, .string (bs text), .slice na names.length nc, .slice ia items.length ic] rfl (fun w hw => hw.1.1.1.1) rfl (fun k hk => by rw [Int.toNat_natCast]; exact grC_get l u k hk hp) ?_
      (first | refine wX ?_ | exact wZ)
      refine Nd.mk (by rw [bs_size]; show _ + ([58] : List UInt8).length < _; simp; omega) ?_
      rw [show (⟨#[58]⟩ : ByteArray) = bs [58] from rfl, bs_app]
      (first | refine wX ?_ | exact wZ)
      refine Nd.mk (by rw [bs_size, bs_size]; simp; omega) ?_
      rw [bs_app]
      (first | refine wX ?_ | exact wZ)
      rw [show leafS qL itL ⟨5, num, text, names, items⟩ = [58] ++ text from rfl, List.append_assoc]
    · -- 6: the kind
      rw [docS_in hat (fun h => absurd (of_decide_eq_true h) (by show ¬ (6 : Int) ≤ 5; decide))]
      -- 6: the kind
      refine factC hm Tryz.func54 (by kernel_rfl) rfl rfl ?_
      (first | refine wX ?_ | exact wZ)
      refine Nd.mk ⟨hsa, by omega, by omega⟩ ?_
      (first | refine wX ?_ | exact wZ)
      refine LdN.agg [.int .i64 6, .int .i64 num, .string (bs text), .slice na names.length nc, .slice ia items.length ic] rfl (fun w hw => hw.1.1.1.1) rfl (fun k hk => by rw [Int.toNat_natCast]; exact grC_get l u k hk hp) ?_
      (first | refine wX ?_ | exact wZ)
      refine call1 (parts_c0 6 num text names items na nc ia ic (by omega) htl _) ?_
      (first | refine wX ?_ | exact wZ)
      refine call1 (rHas_c ub uc way u hub (by omega) _ (fun w hw => hw.1.2)) ?_
      cases hun : decide ((u : Int) ∈ way) with
      | true =>
        rw [if_pos (of_decide_eq_true hun)]
        (first | refine wX ?_ | exact wZ)
        refine Nd.mk (by rw [bs_size, bs_size]; have := within_le htl num names items 6; omega) ?_
        rw [bs_app]
        (first | refine wX ?_ | exact wZ)
      | false =>
      rw [if_neg (of_decide_eq_false hun)]
      ((conv => whnf); (repeat ((first | refine BoxN.own ?_ | refine VrN.norm (wrap_i64 (by omega)) ?_ | refine VrN.keep ?_ | refine DrawN.calm (by decide +kernel) ?_ | refine Nd.mk (by decide +kernel) ?_ | refine Nd.mk (by omega) ?_ | (refine Nd.mk ?_ ?_; focus ((repeat' (first | exact trivial | exact wkE_refl _ | refine And.intro ?_ ?_)); done)) | refine RdN.intro _ rfl (by rfl) ?_); (conv => whnf))))
      refine RwN.known [] rfl fun nb => ?_
      ((conv => whnf); (repeat ((first | refine BoxN.own ?_ | refine VrN.norm (wrap_i64 (by omega)) ?_ | refine VrN.keep ?_ | refine DrawN.calm (by decide +kernel) ?_ | refine Nd.mk (by decide +kernel) ?_ | refine Nd.mk (by omega) ?_ | (refine Nd.mk ?_ ?_; focus ((repeat' (first | exact trivial | exact wkE_refl _ | refine And.intro ?_ ?_)); done)) | refine RdN.intro _ rfl (by rfl) ?_); (conv => whnf))))
      refine app_any 2 [] (iC way) rfl (Nat.le_refl _) (fun h => by cases hq : ub with | none => rw [hub hq] at h; cases h | some b => rfl) (by show (iC way).length = way.length * 1; simp [iC]) (fun u hu => by obtain ⟨x, _, rfl⟩ := List.mem_map.1 hu; rfl) (fun w hw j v hv => hw.1.2.cell hv) ⟨⟨by show (0 + way.length) * 8 ≤ _; omega, by omega⟩, Nat.one_ne_zero⟩ fun wb wc hwc => ?_
      rw [Nat.zero_add, List.nil_append]
      ((conv => whnf); (repeat ((first | refine BoxN.own ?_ | refine VrN.norm (wrap_i64 (by omega)) ?_ | refine VrN.keep ?_ | refine DrawN.calm (by decide +kernel) ?_ | refine Nd.mk (by decide +kernel) ?_ | refine Nd.mk (by omega) ?_ | (refine Nd.mk ?_ ?_; focus ((repeat' (first | exact trivial | exact wkE_refl _ | refine And.intro ?_ ?_)); done)) | refine RdN.intro _ rfl (by rfl) ?_); (conv => whnf))))
      refine RwN.own ?_
      (first | refine wX ?_ | exact wZ)
      try refine Nd.mk ⟨Nat.le_refl 1, rfl, rfl⟩ ?_
      (conv => whnf)
      refine AppN.grow 2 (iC way) [.int .i64 (u : Int)] rfl rfl ⟨Nat.le_refl 1, ⟨by show (way.length + 1) * 8 ≤ _; omega, by omega⟩, Nat.one_ne_zero⟩ fun wb2 wc2 hwc2 _ => ?_
      obtain ⟨way2, hway2⟩ : ∃ w2, w2 = way ++ [(u : Int)] := ⟨_, rfl⟩
      have hcl : iC way ++ [.int .i64 (u : Int)] = iC way2 := by rw [hway2]; simp [iC]
      have hwl2 : way.length + 1 = way2.length := by rw [hway2]; simp
      rw [hcl, hwl2]
      ((conv => whnf); (repeat ((first | refine BoxN.own ?_ | refine VrN.norm (wrap_i64 (by omega)) ?_ | refine VrN.keep ?_ | refine DrawN.calm (by decide +kernel) ?_ | refine Nd.mk (by decide +kernel) ?_ | refine Nd.mk (by omega) ?_ | (refine Nd.mk ?_ ?_; focus ((repeat' (first | exact trivial | exact wkE_refl _ | refine And.intro ?_ ?_)); done)) | refine RdN.intro _ rfl (by rfl) ?_); (conv => whnf))))
      have hfl : (firstD (Cell.mk 6 num text names items)).length ≤ 2003 := by have := first_le hsh (u : Int); rw [hat] at this; exact this
      refine Nd.mk (by rw [bs_size, bs_size]; omega) ?_
      rw [bs_app]
      (first | refine wX ?_ | exact wZ)
      rw [← hway2]
      have hnd2 : way2.Nodup := by
        rw [hway2]
        exact List.nodup_append.2 ⟨hw, by simp, fun x hx y hy => by
          rw [List.mem_singleton.1 hy]
          intro e
          subst e
          exact of_decide_eq_false hun hx⟩
      have hr2 : ∀ x ∈ way2, 0 ≤ x ∧ x < (l.length : Int) := fun x hx => by
        rw [hway2] at hx
        rcases List.mem_append.1 hx with hx | hx
        · exact hr x hx
        · rw [List.mem_singleton.1 hx]; omega
      obtain ⟨ff, hff⟩ : ∃ ff, ff = fun o k => docS 20000 (leafS qL itL) (l.map (·.c)) m o way2 k := ⟨_, rfl⟩
      rw [← hff]
      have hfx : ∀ o x, ff o x = docS 20000 (leafS qL itL) (l.map (·.c)) m o way2 x := fun o x => by rw [hff]
      have hpre : ∀ i, (preD (Cell.mk 6 num text names items) i).length ≤ 50 := fun i => by
        have := preD_le hsh (u : Int) i
        rw [hat] at this
        exact this
      obtain ⟨T, hT⟩ : ∃ T, T = foldD 20000 ff (preD (Cell.mk 6 num text names items)) 0 items (out ++ firstD (Cell.mk 6 num text names items)) := ⟨_, rfl⟩
      rw [← hT]
      refine loopS (Nat × List UInt8) (fun ⟨k, o⟩ => k ≤ items.length ∧ o.length ≤ 1000000000 ∧ foldD 20000 ff (preD (Cell.mk 6 num text names items)) k (items.drop k) o = T)
        (fun ⟨k, o⟩ => mkS Tryz.f54.ntmps 0 [(0, .c (.v (.string (bs o)))), (1, .c (.v (.slice a l.length ca))), (3, .c (.v (.slice (some ⟨wb2, 0, none⟩) way2.length wc2))), (8, .c (.v (.string ⟨#[]⟩))), (9, .c (.lp 1 0)), (11, .c (.v (.string (bs (backT (Cell.mk 6 num text names items)))))), (13, .c (.v (.int .i64 (k : Int))))]) (fun ⟨k, _⟩ => items.length - k) rfl (fun _ => rfl) (0, out ++ firstD (Cell.mk 6 num text names items)) ⟨Nat.zero_le _, by rw [List.length_append]; omega, hT.symm⟩ ?_ ?_
      · (repeat' (first | exact trivial | refine And.intro (by with_reducible rfl) ?_ | (with_reducible exact wkC_refl _) | (with_reducible exact wkCs_refl _) | refine And.intro ?_ ?_))
        all_goals rfl
      rintro ⟨k, o⟩ ⟨hk, hob, hfo⟩
      (first | refine wX ?_ | exact wZ)
      refine brd_dec (fun h1 => ?_) (fun h1 => ?_)
      rotate_left
      · -- 6: the kind
        have hend := foldD_end (f := ff) (pre := preD (Cell.mk 6 num text names items)) (l := items) (k := k) (out := o) (M := 20000) (by omega)
        rw [hfo] at hend
        subst hend
        (first | refine wX ?_ | exact wZ)
        have hbl := back_le (Cell.mk 6 num text names items)
        refine Nd.mk (by rw [bs_size, bs_size]; omega) ?_
        rw [bs_app]
        (first | refine wX ?_ | exact wZ)
      (first | refine wX ?_ | exact wZ)
      rw [bs_size]
      refine brd_dec (fun h2 => ?_) (fun h2 => ?_)
      rotate_left
      · -- 6: the kind
        have hend := foldD_end (f := ff) (pre := preD (Cell.mk 6 num text names items)) (l := items) (k := k) (out := o) (M := 20000) (by omega)
        rw [hfo] at hend
        subst hend
        (first | refine wX ?_ | exact wZ)
        have hbl := back_le (Cell.mk 6 num text names items)
        refine Nd.mk (by rw [bs_size, bs_size]; omega) ?_
        rw [bs_app]
        (first | refine wX ?_ | exact wZ)
      have hk1 : k < items.length := by omega
      have ho2 : o.length < 20000 := by omega
      obtain ⟨x, hx⟩ : ∃ x, items[k]? = some x := ⟨_, List.getElem?_eq_getElem hk1⟩
      have hxr := hrange x (List.mem_of_getElem? hx)
      obtain ⟨xn, rfl⟩ : ∃ xn : Nat, x = (xn : Int) := ⟨x.toNat, by omega⟩
      have hisa : ia.isSome = true := by
        cases ia with
        | none => have := hpo.ia rfl; simp only at this; rw [this] at hk1; exact absurd hk1 (Nat.not_lt_zero _)
        | some b => rfl
      have hstep := foldD_at (f := ff) (pre := preD (Cell.mk 6 num text names items)) hx ho2
      rw [hfo] at hstep
      (first | refine wX ?_ | exact wZ)
      refine brd_dec (fun h3 => ?_) (fun h3 => ?_)
      · (first | refine wX ?_ | exact wZ)
        -- [44, 32]: what stands ahead of the item
        refine Nd.mk (by rw [bs_size]; show _ + ([44, 32] : List UInt8).length < _; simp; omega) ?_
        rw [show (⟨#[44, 32]⟩ : ByteArray) = bs [44, 32] from rfl, bs_app]
        (first | refine wX ?_ | exact wZ)
        -- 6: the kind, o ++ [44, 32]: what was written, (by rw [preD_6 rfl, if_pos (by omega)]): why it is that
        refine Nd.mk ⟨hisa, by omega, by omega⟩ ?_
        (first | refine wX ?_ | exact wZ)
        refine LdN.one (.int .i64 (xn : Int)) rfl (fun w hw => (hw.1.1.1.2 _ hpm).2) (by rw [Int.toNat_natCast]; show (iC items)[k * 1]? = _; rw [Nat.mul_one]; exact iC_get hx) ?_
        (first | refine wX ?_ | exact wZ)
        refine call1 (ih (o ++ [44, 32]) (some ⟨wb2, 0, none⟩) wc2 way2 xn (by omega) (fun h => by cases h) hnd2 hr2 (by omega) (by omega) (by first | omega | (simp only [List.length_append, List.length_cons, List.length_nil]; omega)) _ (fun w hw => ⟨hw.1.1, hw.2.1⟩)) ?_
        (first | refine wX ?_ | exact wZ)
        rw [show o ++ preD (Cell.mk 6 num text names items) k = o ++ [44, 32] from (by rw [preD_6 rfl, if_pos (by omega)]), hfx] at hstep
        refine ⟨(k + 1, docS 20000 (leafS qL itL) (l.map (·.c)) m (o ++ [44, 32]) way2 xn), ⟨by omega, ?_, hstep.symm⟩, by show items.length - (k + 1) < items.length - k; omega, ?_, by (repeat' (first | exact trivial | exact wkE_refl _ | refine And.intro ?_ ?_))⟩
        · have := doc_len (M := 20000) hsh m (o ++ [44, 32]) way2 xn
          have h3 : (o ++ [44, 32]).length ≤ 20100 := by first | omega | (simp only [List.length_append, List.length_cons, List.length_nil]; omega)
          show (docS _ _ _ _ _ _ _).length ≤ _
          omega
        · (repeat' (first | exact trivial | refine And.intro (by with_reducible rfl) ?_ | (with_reducible exact wkC_refl _) | (with_reducible exact wkCs_refl _) | refine And.intro ?_ ?_))
          all_goals first | rfl | exact av_int (by rw [wrap_i64 (by omega)]; omega) | exact av_int (by omega)
      · (first | refine wX ?_ | exact wZ)
        -- 6: the kind, o: what was written, (by rw [preD_6 rfl, if_neg (by omega), List.append_nil]): why it is that
        refine Nd.mk ⟨hisa, by omega, by omega⟩ ?_
        (first | refine wX ?_ | exact wZ)
        refine LdN.one (.int .i64 (xn : Int)) rfl (fun w hw => (hw.1.1.1.2 _ hpm).2) (by rw [Int.toNat_natCast]; show (iC items)[k * 1]? = _; rw [Nat.mul_one]; exact iC_get hx) ?_
        (first | refine wX ?_ | exact wZ)
        refine call1 (ih (o) (some ⟨wb2, 0, none⟩) wc2 way2 xn (by omega) (fun h => by cases h) hnd2 hr2 (by omega) (by omega) (by first | omega | (simp only [List.length_append, List.length_cons, List.length_nil]; omega)) _ (fun w hw => ⟨hw.1.1, hw.2.1⟩)) ?_
        (first | refine wX ?_ | exact wZ)
        rw [show o ++ preD (Cell.mk 6 num text names items) k = o from (by rw [preD_6 rfl, if_neg (by omega), List.append_nil]), hfx] at hstep
        refine ⟨(k + 1, docS 20000 (leafS qL itL) (l.map (·.c)) m (o) way2 xn), ⟨by omega, ?_, hstep.symm⟩, by show items.length - (k + 1) < items.length - k; omega, ?_, by (repeat' (first | exact trivial | exact wkE_refl _ | refine And.intro ?_ ?_))⟩
        · have := doc_len (M := 20000) hsh m (o) way2 xn
          have h3 : (o).length ≤ 20100 := by first | omega | (simp only [List.length_append, List.length_cons, List.length_nil]; omega)
          show (docS _ _ _ _ _ _ _).length ≤ _
          omega
        · (repeat' (first | exact trivial | refine And.intro (by with_reducible rfl) ?_ | (with_reducible exact wkC_refl _) | (with_reducible exact wkCs_refl _) | refine And.intro ?_ ?_))
          all_goals first | rfl | exact av_int (by rw [wrap_i64 (by omega)]; omega) | exact av_int (by omega)
    · -- 7: the kind
      rw [docS_in hat (fun h => absurd (of_decide_eq_true h) (by show ¬ (7 : Int) ≤ 5; decide))]
      -- 7: the kind
      refine factC hm Tryz.func54 (by kernel_rfl) rfl rfl ?_
      (first | refine wX ?_ | exact wZ)
      refine Nd.mk ⟨hsa, by omega, by omega⟩ ?_
      (first | refine wX ?_ | exact wZ)
      refine LdN.agg [.int .i64 7, .int .i64 num, .string (bs text), .slice na names.length nc, .slice ia items.length ic] rfl (fun w hw => hw.1.1.1.1) rfl (fun k hk => by rw [Int.toNat_natCast]; exact grC_get l u k hk hp) ?_
      (first | refine wX ?_ | exact wZ)
      refine call1 (parts_c0 7 num text names items na nc ia ic (by omega) htl _) ?_
      (first | refine wX ?_ | exact wZ)
      refine call1 (rHas_c ub uc way u hub (by omega) _ (fun w hw => hw.1.2)) ?_
      cases hun : decide ((u : Int) ∈ way) with
      | true =>
        rw [if_pos (of_decide_eq_true hun)]
        (first | refine wX ?_ | exact wZ)
        refine Nd.mk (by rw [bs_size, bs_size]; have := within_le htl num names items 7; omega) ?_
        rw [bs_app]
        (first | refine wX ?_ | exact wZ)
      | false =>
      rw [if_neg (of_decide_eq_false hun)]
      ((conv => whnf); (repeat ((first | refine BoxN.own ?_ | refine VrN.norm (wrap_i64 (by omega)) ?_ | refine VrN.keep ?_ | refine DrawN.calm (by decide +kernel) ?_ | refine Nd.mk (by decide +kernel) ?_ | refine Nd.mk (by omega) ?_ | (refine Nd.mk ?_ ?_; focus ((repeat' (first | exact trivial | exact wkE_refl _ | refine And.intro ?_ ?_)); done)) | refine RdN.intro _ rfl (by rfl) ?_); (conv => whnf))))
      refine RwN.known [] rfl fun nb => ?_
      ((conv => whnf); (repeat ((first | refine BoxN.own ?_ | refine VrN.norm (wrap_i64 (by omega)) ?_ | refine VrN.keep ?_ | refine DrawN.calm (by decide +kernel) ?_ | refine Nd.mk (by decide +kernel) ?_ | refine Nd.mk (by omega) ?_ | (refine Nd.mk ?_ ?_; focus ((repeat' (first | exact trivial | exact wkE_refl _ | refine And.intro ?_ ?_)); done)) | refine RdN.intro _ rfl (by rfl) ?_); (conv => whnf))))
      refine app_any 2 [] (iC way) rfl (Nat.le_refl _) (fun h => by cases hq : ub with | none => rw [hub hq] at h; cases h | some b => rfl) (by show (iC way).length = way.length * 1; simp [iC]) (fun u hu => by obtain ⟨x, _, rfl⟩ := List.mem_map.1 hu; rfl) (fun w hw j v hv => hw.1.2.cell hv) ⟨⟨by show (0 + way.length) * 8 ≤ _; omega, by omega⟩, Nat.one_ne_zero⟩ fun wb wc hwc => ?_
      rw [Nat.zero_add, List.nil_append]
      ((conv => whnf); (repeat ((first | refine BoxN.own ?_ | refine VrN.norm (wrap_i64 (by omega)) ?_ | refine VrN.keep ?_ | refine DrawN.calm (by decide +kernel) ?_ | refine Nd.mk (by decide +kernel) ?_ | refine Nd.mk (by omega) ?_ | (refine Nd.mk ?_ ?_; focus ((repeat' (first | exact trivial | exact wkE_refl _ | refine And.intro ?_ ?_)); done)) | refine RdN.intro _ rfl (by rfl) ?_); (conv => whnf))))
      refine RwN.own ?_
      (first | refine wX ?_ | exact wZ)
      try refine Nd.mk ⟨Nat.le_refl 1, rfl, rfl⟩ ?_
      (conv => whnf)
      refine AppN.grow 2 (iC way) [.int .i64 (u : Int)] rfl rfl ⟨Nat.le_refl 1, ⟨by show (way.length + 1) * 8 ≤ _; omega, by omega⟩, Nat.one_ne_zero⟩ fun wb2 wc2 hwc2 _ => ?_
      obtain ⟨way2, hway2⟩ : ∃ w2, w2 = way ++ [(u : Int)] := ⟨_, rfl⟩
      have hcl : iC way ++ [.int .i64 (u : Int)] = iC way2 := by rw [hway2]; simp [iC]
      have hwl2 : way.length + 1 = way2.length := by rw [hway2]; simp
      rw [hcl, hwl2]
      ((conv => whnf); (repeat ((first | refine BoxN.own ?_ | refine VrN.norm (wrap_i64 (by omega)) ?_ | refine VrN.keep ?_ | refine DrawN.calm (by decide +kernel) ?_ | refine Nd.mk (by decide +kernel) ?_ | refine Nd.mk (by omega) ?_ | (refine Nd.mk ?_ ?_; focus ((repeat' (first | exact trivial | exact wkE_refl _ | refine And.intro ?_ ?_)); done)) | refine RdN.intro _ rfl (by rfl) ?_); (conv => whnf))))
      have hfl : (firstD (Cell.mk 7 num text names items)).length ≤ 2003 := by have := first_le hsh (u : Int); rw [hat] at this; exact this
      refine Nd.mk (by rw [bs_size, bs_size]; omega) ?_
      rw [bs_app]
      (first | refine wX ?_ | exact wZ)
      rw [← hway2]
      have hnd2 : way2.Nodup := by
        rw [hway2]
        exact List.nodup_append.2 ⟨hw, by simp, fun x hx y hy => by
          rw [List.mem_singleton.1 hy]
          intro e
          subst e
          exact of_decide_eq_false hun hx⟩
      have hr2 : ∀ x ∈ way2, 0 ≤ x ∧ x < (l.length : Int) := fun x hx => by
        rw [hway2] at hx
        rcases List.mem_append.1 hx with hx | hx
        · exact hr x hx
        · rw [List.mem_singleton.1 hx]; omega
      obtain ⟨ff, hff⟩ : ∃ ff, ff = fun o k => docS 20000 (leafS qL itL) (l.map (·.c)) m o way2 k := ⟨_, rfl⟩
      rw [← hff]
      have hfx : ∀ o x, ff o x = docS 20000 (leafS qL itL) (l.map (·.c)) m o way2 x := fun o x => by rw [hff]
      have hpre : ∀ i, (preD (Cell.mk 7 num text names items) i).length ≤ 50 := fun i => by
        have := preD_le hsh (u : Int) i
        rw [hat] at this
        exact this
      obtain ⟨T, hT⟩ : ∃ T, T = foldD 20000 ff (preD (Cell.mk 7 num text names items)) 0 items (out ++ firstD (Cell.mk 7 num text names items)) := ⟨_, rfl⟩
      rw [← hT]
      refine loopS (Nat × List UInt8) (fun ⟨k, o⟩ => k ≤ items.length ∧ o.length ≤ 1000000000 ∧ foldD 20000 ff (preD (Cell.mk 7 num text names items)) k (items.drop k) o = T)
        (fun ⟨k, o⟩ => mkS Tryz.f54.ntmps 0 [(0, .c (.v (.string (bs o)))), (1, .c (.v (.slice a l.length ca))), (3, .c (.v (.slice (some ⟨wb2, 0, none⟩) way2.length wc2))), (8, .c (.v (.string ⟨#[]⟩))), (9, .c (.lp 1 0)), (11, .c (.v (.string (bs (backT (Cell.mk 7 num text names items)))))), (13, .c (.v (.int .i64 (k : Int))))]) (fun ⟨k, _⟩ => items.length - k) rfl (fun _ => rfl) (0, out ++ firstD (Cell.mk 7 num text names items)) ⟨Nat.zero_le _, by rw [List.length_append]; omega, hT.symm⟩ ?_ ?_
      · (repeat' (first | exact trivial | refine And.intro (by with_reducible rfl) ?_ | (with_reducible exact wkC_refl _) | (with_reducible exact wkCs_refl _) | refine And.intro ?_ ?_))
        all_goals rfl
      rintro ⟨k, o⟩ ⟨hk, hob, hfo⟩
      (first | refine wX ?_ | exact wZ)
      refine brd_dec (fun h1 => ?_) (fun h1 => ?_)
      rotate_left
      · -- 7: the kind
        have hend := foldD_end (f := ff) (pre := preD (Cell.mk 7 num text names items)) (l := items) (k := k) (out := o) (M := 20000) (by omega)
        rw [hfo] at hend
        subst hend
        (first | refine wX ?_ | exact wZ)
        have hbl := back_le (Cell.mk 7 num text names items)
        refine Nd.mk (by rw [bs_size, bs_size]; omega) ?_
        rw [bs_app]
        (first | refine wX ?_ | exact wZ)
      (first | refine wX ?_ | exact wZ)
      rw [bs_size]
      refine brd_dec (fun h2 => ?_) (fun h2 => ?_)
      rotate_left
      · -- 7: the kind
        have hend := foldD_end (f := ff) (pre := preD (Cell.mk 7 num text names items)) (l := items) (k := k) (out := o) (M := 20000) (by omega)
        rw [hfo] at hend
        subst hend
        (first | refine wX ?_ | exact wZ)
        have hbl := back_le (Cell.mk 7 num text names items)
        refine Nd.mk (by rw [bs_size, bs_size]; omega) ?_
        rw [bs_app]
        (first | refine wX ?_ | exact wZ)
      have hk1 : k < items.length := by omega
      have ho2 : o.length < 20000 := by omega
      obtain ⟨x, hx⟩ : ∃ x, items[k]? = some x := ⟨_, List.getElem?_eq_getElem hk1⟩
      have hxr := hrange x (List.mem_of_getElem? hx)
      obtain ⟨xn, rfl⟩ : ∃ xn : Nat, x = (xn : Int) := ⟨x.toNat, by omega⟩
      have hisa : ia.isSome = true := by
        cases ia with
        | none => have := hpo.ia rfl; simp only at this; rw [this] at hk1; exact absurd hk1 (Nat.not_lt_zero _)
        | some b => rfl
      have hstep := foldD_at (f := ff) (pre := preD (Cell.mk 7 num text names items)) hx ho2
      rw [hfo] at hstep
      (first | refine wX ?_ | exact wZ)
      refine brd_eq (fun h3 => ?_) (fun h3 => ?_)
      · rw [Int.tmod_eq_emod_of_nonneg (by omega)] at h3
        (first | refine wX ?_ | exact wZ)
        -- [32, 61, 62, 32]: what stands ahead of the item
        refine Nd.mk (by rw [bs_size]; show _ + ([32, 61, 62, 32] : List UInt8).length < _; simp; omega) ?_
        rw [show (⟨#[32, 61, 62, 32]⟩ : ByteArray) = bs [32, 61, 62, 32] from rfl, bs_app]
        (first | refine wX ?_ | exact wZ)
        -- 7: the kind, o ++ [32, 61, 62, 32]: what was written, (by rw [preD_7 rfl, if_pos (by omega)]): why it is that
        refine Nd.mk ⟨hisa, by omega, by omega⟩ ?_
        (first | refine wX ?_ | exact wZ)
        refine LdN.one (.int .i64 (xn : Int)) rfl (fun w hw => (hw.1.1.1.2 _ hpm).2) (by rw [Int.toNat_natCast]; show (iC items)[k * 1]? = _; rw [Nat.mul_one]; exact iC_get hx) ?_
        (first | refine wX ?_ | exact wZ)
        refine call1 (ih (o ++ [32, 61, 62, 32]) (some ⟨wb2, 0, none⟩) wc2 way2 xn (by omega) (fun h => by cases h) hnd2 hr2 (by omega) (by omega) (by first | omega | (simp only [List.length_append, List.length_cons, List.length_nil]; omega)) _ (fun w hw => ⟨hw.1.1, hw.2.1⟩)) ?_
        (first | refine wX ?_ | exact wZ)
        rw [show o ++ preD (Cell.mk 7 num text names items) k = o ++ [32, 61, 62, 32] from (by rw [preD_7 rfl, if_pos (by omega)]), hfx] at hstep
        refine ⟨(k + 1, docS 20000 (leafS qL itL) (l.map (·.c)) m (o ++ [32, 61, 62, 32]) way2 xn), ⟨by omega, ?_, hstep.symm⟩, by show items.length - (k + 1) < items.length - k; omega, ?_, by (repeat' (first | exact trivial | exact wkE_refl _ | refine And.intro ?_ ?_))⟩
        · have := doc_len (M := 20000) hsh m (o ++ [32, 61, 62, 32]) way2 xn
          have h3 : (o ++ [32, 61, 62, 32]).length ≤ 20100 := by first | omega | (simp only [List.length_append, List.length_cons, List.length_nil]; omega)
          show (docS _ _ _ _ _ _ _).length ≤ _
          omega
        · (repeat' (first | exact trivial | refine And.intro (by with_reducible rfl) ?_ | (with_reducible exact wkC_refl _) | (with_reducible exact wkCs_refl _) | refine And.intro ?_ ?_))
          all_goals first | rfl | exact av_int (by rw [wrap_i64 (by omega)]; omega) | exact av_int (by omega)
      rw [Int.tmod_eq_emod_of_nonneg (by omega)] at h3
      (first | refine wX ?_ | exact wZ)
      refine brd_dec (fun h4 => ?_) (fun h4 => ?_)
      · (first | refine wX ?_ | exact wZ)
        -- [44, 32]: what stands ahead of the item
        refine Nd.mk (by rw [bs_size]; show _ + ([44, 32] : List UInt8).length < _; simp; omega) ?_
        rw [show (⟨#[44, 32]⟩ : ByteArray) = bs [44, 32] from rfl, bs_app]
        (first | refine wX ?_ | exact wZ)
        -- 7: the kind, o ++ [44, 32]: what was written, (by rw [preD_7 rfl, if_neg (by omega), if_pos (by omega)]): why it is that
        refine Nd.mk ⟨hisa, by omega, by omega⟩ ?_
        (first | refine wX ?_ | exact wZ)
        refine LdN.one (.int .i64 (xn : Int)) rfl (fun w hw => (hw.1.1.1.2 _ hpm).2) (by rw [Int.toNat_natCast]; show (iC items)[k * 1]? = _; rw [Nat.mul_one]; exact iC_get hx) ?_
        (first | refine wX ?_ | exact wZ)
        refine call1 (ih (o ++ [44, 32]) (some ⟨wb2, 0, none⟩) wc2 way2 xn (by omega) (fun h => by cases h) hnd2 hr2 (by omega) (by omega) (by first | omega | (simp only [List.length_append, List.length_cons, List.length_nil]; omega)) _ (fun w hw => ⟨hw.1.1, hw.2.1⟩)) ?_
        (first | refine wX ?_ | exact wZ)
        rw [show o ++ preD (Cell.mk 7 num text names items) k = o ++ [44, 32] from (by rw [preD_7 rfl, if_neg (by omega), if_pos (by omega)]), hfx] at hstep
        refine ⟨(k + 1, docS 20000 (leafS qL itL) (l.map (·.c)) m (o ++ [44, 32]) way2 xn), ⟨by omega, ?_, hstep.symm⟩, by show items.length - (k + 1) < items.length - k; omega, ?_, by (repeat' (first | exact trivial | exact wkE_refl _ | refine And.intro ?_ ?_))⟩
        · have := doc_len (M := 20000) hsh m (o ++ [44, 32]) way2 xn
          have h3 : (o ++ [44, 32]).length ≤ 20100 := by first | omega | (simp only [List.length_append, List.length_cons, List.length_nil]; omega)
          show (docS _ _ _ _ _ _ _).length ≤ _
          omega
        · (repeat' (first | exact trivial | refine And.intro (by with_reducible rfl) ?_ | (with_reducible exact wkC_refl _) | (with_reducible exact wkCs_refl _) | refine And.intro ?_ ?_))
          all_goals first | rfl | exact av_int (by rw [wrap_i64 (by omega)]; omega) | exact av_int (by omega)
      · (first | refine wX ?_ | exact wZ)
        -- 7: the kind, o: what was written, (by rw [preD_7 rfl, if_neg (by omega), if_neg (by omega), List.append_nil]): why it is that
        refine Nd.mk ⟨hisa, by omega, by omega⟩ ?_
        (first | refine wX ?_ | exact wZ)
        refine LdN.one (.int .i64 (xn : Int)) rfl (fun w hw => (hw.1.1.1.2 _ hpm).2) (by rw [Int.toNat_natCast]; show (iC items)[k * 1]? = _; rw [Nat.mul_one]; exact iC_get hx) ?_
        (first | refine wX ?_ | exact wZ)
        refine call1 (ih (o) (some ⟨wb2, 0, none⟩) wc2 way2 xn (by omega) (fun h => by cases h) hnd2 hr2 (by omega) (by omega) (by first | omega | (simp only [List.length_append, List.length_cons, List.length_nil]; omega)) _ (fun w hw => ⟨hw.1.1, hw.2.1⟩)) ?_
        (first | refine wX ?_ | exact wZ)
        rw [show o ++ preD (Cell.mk 7 num text names items) k = o from (by rw [preD_7 rfl, if_neg (by omega), if_neg (by omega), List.append_nil]), hfx] at hstep
        refine ⟨(k + 1, docS 20000 (leafS qL itL) (l.map (·.c)) m (o) way2 xn), ⟨by omega, ?_, hstep.symm⟩, by show items.length - (k + 1) < items.length - k; omega, ?_, by (repeat' (first | exact trivial | exact wkE_refl _ | refine And.intro ?_ ?_))⟩
        · have := doc_len (M := 20000) hsh m (o) way2 xn
          have h3 : (o).length ≤ 20100 := by first | omega | (simp only [List.length_append, List.length_cons, List.length_nil]; omega)
          show (docS _ _ _ _ _ _ _).length ≤ _
          omega
        · (repeat' (first | exact trivial | refine And.intro (by with_reducible rfl) ?_ | (with_reducible exact wkC_refl _) | (with_reducible exact wkCs_refl _) | refine And.intro ?_ ?_))
          all_goals first | rfl | exact av_int (by rw [wrap_i64 (by omega)]; omega) | exact av_int (by omega)
    · -- 8: the kind
      rw [docS_in hat (fun h => absurd (of_decide_eq_true h) (by show ¬ (8 : Int) ≤ 5; decide))]
      -- 8: the kind
      refine factC hm Tryz.func54 (by kernel_rfl) rfl rfl ?_
      (first | refine wX ?_ | exact wZ)
      refine Nd.mk ⟨hsa, by omega, by omega⟩ ?_
      (first | refine wX ?_ | exact wZ)
      refine LdN.agg [.int .i64 8, .int .i64 num, .string (bs text), .slice na names.length nc, .slice ia items.length ic] rfl (fun w hw => hw.1.1.1.1) rfl (fun k hk => by rw [Int.toNat_natCast]; exact grC_get l u k hk hp) ?_
      (first | refine wX ?_ | exact wZ)
      refine call1 (parts_c0 8 num text names items na nc ia ic (by omega) htl _) ?_
      (first | refine wX ?_ | exact wZ)
      refine call1 (rHas_c ub uc way u hub (by omega) _ (fun w hw => hw.1.2)) ?_
      cases hun : decide ((u : Int) ∈ way) with
      | true =>
        rw [if_pos (of_decide_eq_true hun)]
        (first | refine wX ?_ | exact wZ)
        refine Nd.mk (by rw [bs_size, bs_size]; have := within_le htl num names items 8; omega) ?_
        rw [bs_app]
        (first | refine wX ?_ | exact wZ)
      | false =>
      rw [if_neg (of_decide_eq_false hun)]
      ((conv => whnf); (repeat ((first | refine BoxN.own ?_ | refine VrN.norm (wrap_i64 (by omega)) ?_ | refine VrN.keep ?_ | refine DrawN.calm (by decide +kernel) ?_ | refine Nd.mk (by decide +kernel) ?_ | refine Nd.mk (by omega) ?_ | (refine Nd.mk ?_ ?_; focus ((repeat' (first | exact trivial | exact wkE_refl _ | refine And.intro ?_ ?_)); done)) | refine RdN.intro _ rfl (by rfl) ?_); (conv => whnf))))
      refine RwN.known [] rfl fun nb => ?_
      ((conv => whnf); (repeat ((first | refine BoxN.own ?_ | refine VrN.norm (wrap_i64 (by omega)) ?_ | refine VrN.keep ?_ | refine DrawN.calm (by decide +kernel) ?_ | refine Nd.mk (by decide +kernel) ?_ | refine Nd.mk (by omega) ?_ | (refine Nd.mk ?_ ?_; focus ((repeat' (first | exact trivial | exact wkE_refl _ | refine And.intro ?_ ?_)); done)) | refine RdN.intro _ rfl (by rfl) ?_); (conv => whnf))))
      refine app_any 2 [] (iC way) rfl (Nat.le_refl _) (fun h => by cases hq : ub with | none => rw [hub hq] at h; cases h | some b => rfl) (by show (iC way).length = way.length * 1; simp [iC]) (fun u hu => by obtain ⟨x, _, rfl⟩ := List.mem_map.1 hu; rfl) (fun w hw j v hv => hw.1.2.cell hv) ⟨⟨by show (0 + way.length) * 8 ≤ _; omega, by omega⟩, Nat.one_ne_zero⟩ fun wb wc hwc => ?_
      rw [Nat.zero_add, List.nil_append]
      ((conv => whnf); (repeat ((first | refine BoxN.own ?_ | refine VrN.norm (wrap_i64 (by omega)) ?_ | refine VrN.keep ?_ | refine DrawN.calm (by decide +kernel) ?_ | refine Nd.mk (by decide +kernel) ?_ | refine Nd.mk (by omega) ?_ | (refine Nd.mk ?_ ?_; focus ((repeat' (first | exact trivial | exact wkE_refl _ | refine And.intro ?_ ?_)); done)) | refine RdN.intro _ rfl (by rfl) ?_); (conv => whnf))))
      refine RwN.own ?_
      (first | refine wX ?_ | exact wZ)
      try refine Nd.mk ⟨Nat.le_refl 1, rfl, rfl⟩ ?_
      (conv => whnf)
      refine AppN.grow 2 (iC way) [.int .i64 (u : Int)] rfl rfl ⟨Nat.le_refl 1, ⟨by show (way.length + 1) * 8 ≤ _; omega, by omega⟩, Nat.one_ne_zero⟩ fun wb2 wc2 hwc2 _ => ?_
      obtain ⟨way2, hway2⟩ : ∃ w2, w2 = way ++ [(u : Int)] := ⟨_, rfl⟩
      have hcl : iC way ++ [.int .i64 (u : Int)] = iC way2 := by rw [hway2]; simp [iC]
      have hwl2 : way.length + 1 = way2.length := by rw [hway2]; simp
      rw [hcl, hwl2]
      ((conv => whnf); (repeat ((first | refine BoxN.own ?_ | refine VrN.norm (wrap_i64 (by omega)) ?_ | refine VrN.keep ?_ | refine DrawN.calm (by decide +kernel) ?_ | refine Nd.mk (by decide +kernel) ?_ | refine Nd.mk (by omega) ?_ | (refine Nd.mk ?_ ?_; focus ((repeat' (first | exact trivial | exact wkE_refl _ | refine And.intro ?_ ?_)); done)) | refine RdN.intro _ rfl (by rfl) ?_); (conv => whnf))))
      have hfl : (firstD (Cell.mk 8 num text names items)).length ≤ 2003 := by have := first_le hsh (u : Int); rw [hat] at this; exact this
      refine Nd.mk (by rw [bs_size, bs_size]; omega) ?_
      rw [bs_app]
      (first | refine wX ?_ | exact wZ)
      rw [← hway2]
      have hnd2 : way2.Nodup := by
        rw [hway2]
        exact List.nodup_append.2 ⟨hw, by simp, fun x hx y hy => by
          rw [List.mem_singleton.1 hy]
          intro e
          subst e
          exact of_decide_eq_false hun hx⟩
      have hr2 : ∀ x ∈ way2, 0 ≤ x ∧ x < (l.length : Int) := fun x hx => by
        rw [hway2] at hx
        rcases List.mem_append.1 hx with hx | hx
        · exact hr x hx
        · rw [List.mem_singleton.1 hx]; omega
      obtain ⟨ff, hff⟩ : ∃ ff, ff = fun o k => docS 20000 (leafS qL itL) (l.map (·.c)) m o way2 k := ⟨_, rfl⟩
      rw [← hff]
      have hfx : ∀ o x, ff o x = docS 20000 (leafS qL itL) (l.map (·.c)) m o way2 x := fun o x => by rw [hff]
      have hpre : ∀ i, (preD (Cell.mk 8 num text names items) i).length ≤ 50 := fun i => by
        have := preD_le hsh (u : Int) i
        rw [hat] at this
        exact this
      obtain ⟨T, hT⟩ : ∃ T, T = foldD 20000 ff (preD (Cell.mk 8 num text names items)) 0 items (out ++ firstD (Cell.mk 8 num text names items)) := ⟨_, rfl⟩
      rw [← hT]
      refine loopS (Nat × List UInt8) (fun ⟨k, o⟩ => k ≤ items.length ∧ o.length ≤ 1000000000 ∧ foldD 20000 ff (preD (Cell.mk 8 num text names items)) k (items.drop k) o = T)
        (fun ⟨k, o⟩ => mkS Tryz.f54.ntmps 0 [(0, .c (.v (.string (bs o)))), (1, .c (.v (.slice a l.length ca))), (3, .c (.v (.slice (some ⟨wb2, 0, none⟩) way2.length wc2))), (8, .c (.v (.string ⟨#[]⟩))), (9, .c (.lp 1 0)), (11, .c (.v (.string (bs (backT (Cell.mk 8 num text names items)))))), (13, .c (.v (.int .i64 (k : Int))))]) (fun ⟨k, _⟩ => items.length - k) rfl (fun _ => rfl) (0, out ++ firstD (Cell.mk 8 num text names items)) ⟨Nat.zero_le _, by rw [List.length_append]; omega, hT.symm⟩ ?_ ?_
      · (repeat' (first | exact trivial | refine And.intro (by with_reducible rfl) ?_ | (with_reducible exact wkC_refl _) | (with_reducible exact wkCs_refl _) | refine And.intro ?_ ?_))
        all_goals rfl
      rintro ⟨k, o⟩ ⟨hk, hob, hfo⟩
      (first | refine wX ?_ | exact wZ)
      refine brd_dec (fun h1 => ?_) (fun h1 => ?_)
      rotate_left
      · -- 8: the kind
        have hend := foldD_end (f := ff) (pre := preD (Cell.mk 8 num text names items)) (l := items) (k := k) (out := o) (M := 20000) (by omega)
        rw [hfo] at hend
        subst hend
        (first | refine wX ?_ | exact wZ)
        have hbl := back_le (Cell.mk 8 num text names items)
        refine Nd.mk (by rw [bs_size, bs_size]; omega) ?_
        rw [bs_app]
        (first | refine wX ?_ | exact wZ)
      (first | refine wX ?_ | exact wZ)
      rw [bs_size]
      refine brd_dec (fun h2 => ?_) (fun h2 => ?_)
      rotate_left
      · -- 8: the kind
        have hend := foldD_end (f := ff) (pre := preD (Cell.mk 8 num text names items)) (l := items) (k := k) (out := o) (M := 20000) (by omega)
        rw [hfo] at hend
        subst hend
        (first | refine wX ?_ | exact wZ)
        have hbl := back_le (Cell.mk 8 num text names items)
        refine Nd.mk (by rw [bs_size, bs_size]; omega) ?_
        rw [bs_app]
        (first | refine wX ?_ | exact wZ)
      have hk1 : k < items.length := by omega
      have ho2 : o.length < 20000 := by omega
      obtain ⟨x, hx⟩ : ∃ x, items[k]? = some x := ⟨_, List.getElem?_eq_getElem hk1⟩
      have hxr := hrange x (List.mem_of_getElem? hx)
      obtain ⟨xn, rfl⟩ : ∃ xn : Nat, x = (xn : Int) := ⟨x.toNat, by omega⟩
      have hisa : ia.isSome = true := by
        cases ia with
        | none => have := hpo.ia rfl; simp only at this; rw [this] at hk1; exact absurd hk1 (Nat.not_lt_zero _)
        | some b => rfl
      have hstep := foldD_at (f := ff) (pre := preD (Cell.mk 8 num text names items)) hx ho2
      rw [hfo] at hstep
      obtain ⟨nm, hnm⟩ : ∃ s, names[k]? = some s := ⟨_, List.getElem?_eq_getElem (by have := hll rfl; omega)⟩
      have hnsa : na.isSome = true := by
        cases na with
        | none => have := hpo.na rfl; simp only at this; rw [this] at hnm; cases hnm
        | some b => rfl
      have hnl := hnn nm (List.mem_of_getElem? hnm)
      have hkn : k < names.length := (List.getElem?_eq_some_iff.1 hnm).1
      have hgd : names.getD k [] = nm := by rw [List.getD_eq_getElem?_getD, hnm]; rfl
      (first | refine wX ?_ | exact wZ)
      refine brd_dec (fun h4 => ?_) (fun h4 => ?_)
      · (first | refine wX ?_ | exact wZ)
        -- [44, 32]: what stands ahead of the item
        refine Nd.mk (by rw [bs_size]; show _ + ([44, 32] : List UInt8).length < _; simp; omega) ?_
        rw [show (⟨#[44, 32]⟩ : ByteArray) = bs [44, 32] from rfl, bs_app]
        (first | refine wX ?_ | exact wZ)
        -- o ++ [44, 32]: what stands ahead of the name
        refine Nd.mk ⟨hnsa, by omega, by omega⟩ ?_
        (first | refine wX ?_ | exact wZ)
        refine LdN.one (.string (bs nm)) rfl (fun w hw => (hw.1.1.1.2 _ hpm).1) (by rw [Int.toNat_natCast]; show (strC names)[k * 1]? = _; rw [Nat.mul_one]; exact strC_get hnm) ?_
        (first | refine wX ?_ | exact wZ)
        refine Nd.mk (by rw [bs_size, bs_size]; first | omega | (simp; omega)) ?_
        rw [bs_app]
        (first | refine wX ?_ | exact wZ)
        refine Nd.mk (by rw [bs_size]; show _ + ([61] : List UInt8).length < _; simp; omega) ?_
        rw [show (⟨#[61]⟩ : ByteArray) = bs [61] from rfl, bs_app]
        (first | refine wX ?_ | exact wZ)
        -- 8: the kind, o ++ [44, 32] ++ nm ++ [61]: what was written, (by rw [preD_8 rfl, if_pos (by omega), hgd]; simp): why it is that
        refine Nd.mk ⟨hisa, by omega, by omega⟩ ?_
        (first | refine wX ?_ | exact wZ)
        refine LdN.one (.int .i64 (xn : Int)) rfl (fun w hw => (hw.1.1.1.2 _ hpm).2) (by rw [Int.toNat_natCast]; show (iC items)[k * 1]? = _; rw [Nat.mul_one]; exact iC_get hx) ?_
        (first | refine wX ?_ | exact wZ)
        refine call1 (ih (o ++ [44, 32] ++ nm ++ [61]) (some ⟨wb2, 0, none⟩) wc2 way2 xn (by omega) (fun h => by cases h) hnd2 hr2 (by omega) (by omega) (by first | omega | (simp only [List.length_append, List.length_cons, List.length_nil]; omega)) _ (fun w hw => ⟨hw.1.1, hw.2.1⟩)) ?_
        (first | refine wX ?_ | exact wZ)
        rw [show o ++ preD (Cell.mk 8 num text names items) k = o ++ [44, 32] ++ nm ++ [61] from (by rw [preD_8 rfl, if_pos (by omega), hgd]; simp), hfx] at hstep
        refine ⟨(k + 1, docS 20000 (leafS qL itL) (l.map (·.c)) m (o ++ [44, 32] ++ nm ++ [61]) way2 xn), ⟨by omega, ?_, hstep.symm⟩, by show items.length - (k + 1) < items.length - k; omega, ?_, by (repeat' (first | exact trivial | exact wkE_refl _ | refine And.intro ?_ ?_))⟩
        · have := doc_len (M := 20000) hsh m (o ++ [44, 32] ++ nm ++ [61]) way2 xn
          have h3 : (o ++ [44, 32] ++ nm ++ [61]).length ≤ 20100 := by first | omega | (simp only [List.length_append, List.length_cons, List.length_nil]; omega)
          show (docS _ _ _ _ _ _ _).length ≤ _
          omega
        · (repeat' (first | exact trivial | refine And.intro (by with_reducible rfl) ?_ | (with_reducible exact wkC_refl _) | (with_reducible exact wkCs_refl _) | refine And.intro ?_ ?_))
          all_goals first | rfl | exact av_int (by rw [wrap_i64 (by omega)]; omega) | exact av_int (by omega)
      · (first | refine wX ?_ | exact wZ)
        -- o: what stands ahead of the name
        refine Nd.mk ⟨hnsa, by omega, by omega⟩ ?_
        (first | refine wX ?_ | exact wZ)
        refine LdN.one (.string (bs nm)) rfl (fun w hw => (hw.1.1.1.2 _ hpm).1) (by rw [Int.toNat_natCast]; show (strC names)[k * 1]? = _; rw [Nat.mul_one]; exact strC_get hnm) ?_
        (first | refine wX ?_ | exact wZ)
        refine Nd.mk (by rw [bs_size, bs_size]; first | omega | (simp; omega)) ?_
        rw [bs_app]
        (first | refine wX ?_ | exact wZ)
        refine Nd.mk (by rw [bs_size]; show _ + ([61] : List UInt8).length < _; simp; omega) ?_
        rw [show (⟨#[61]⟩ : ByteArray) = bs [61] from rfl, bs_app]
        (first | refine wX ?_ | exact wZ)
        -- 8: the kind, o ++ nm ++ [61]: what was written, (by rw [preD_8 rfl, if_neg (by omega), hgd]; simp): why it is that
        refine Nd.mk ⟨hisa, by omega, by omega⟩ ?_
        (first | refine wX ?_ | exact wZ)
        refine LdN.one (.int .i64 (xn : Int)) rfl (fun w hw => (hw.1.1.1.2 _ hpm).2) (by rw [Int.toNat_natCast]; show (iC items)[k * 1]? = _; rw [Nat.mul_one]; exact iC_get hx) ?_
        (first | refine wX ?_ | exact wZ)
        refine call1 (ih (o ++ nm ++ [61]) (some ⟨wb2, 0, none⟩) wc2 way2 xn (by omega) (fun h => by cases h) hnd2 hr2 (by omega) (by omega) (by first | omega | (simp only [List.length_append, List.length_cons, List.length_nil]; omega)) _ (fun w hw => ⟨hw.1.1, hw.2.1⟩)) ?_
        (first | refine wX ?_ | exact wZ)
        rw [show o ++ preD (Cell.mk 8 num text names items) k = o ++ nm ++ [61] from (by rw [preD_8 rfl, if_neg (by omega), hgd]; simp), hfx] at hstep
        refine ⟨(k + 1, docS 20000 (leafS qL itL) (l.map (·.c)) m (o ++ nm ++ [61]) way2 xn), ⟨by omega, ?_, hstep.symm⟩, by show items.length - (k + 1) < items.length - k; omega, ?_, by (repeat' (first | exact trivial | exact wkE_refl _ | refine And.intro ?_ ?_))⟩
        · have := doc_len (M := 20000) hsh m (o ++ nm ++ [61]) way2 xn
          have h3 : (o ++ nm ++ [61]).length ≤ 20100 := by first | omega | (simp only [List.length_append, List.length_cons, List.length_nil]; omega)
          show (docS _ _ _ _ _ _ _).length ≤ _
          omega
        · (repeat' (first | exact trivial | refine And.intro (by with_reducible rfl) ?_ | (with_reducible exact wkC_refl _) | (with_reducible exact wkCs_refl _) | refine And.intro ?_ ?_))
          all_goals first | rfl | exact av_int (by rw [wrap_i64 (by omega)]; omega) | exact av_int (by omega)
end
end Go.Proofs.YtahjbnfbilkbcaaGreatDoor

/-
  Contract: the first example of the chapter (law).
-/
namespace Go.Proofs.YtahjbnfbilkbcaaGreatDoor
open Go.AX Go.RowKit Go.Core Go.Scan
set_option maxRecDepth 20000

def exC : Cell := ⟨6, 0, [], [], [0]⟩
def exP (ib : Nat) : CellP := ⟨exC, none, 0, some ⟨ib, 0, none⟩, 1⟩
def qI (s : List UInt8) : List UInt8 := s
def iI (_ : Int) : List UInt8 := []
theorem ex_val : ValidP [exC] := ⟨by decide, fun c hc => by rw [List.mem_singleton.1 hc]; decide, fun c hc h => by rw [List.mem_singleton.1 hc] at h; exact absurd h (by decide)⟩
theorem ex_ask : AskP [exC] [0] := ⟨ex_val, fun x hx => by rw [List.mem_singleton.1 hx]; decide⟩
theorem ex_text : textP (leafS qI iI) [exC] 0 = [91, 91, 46, 46, 46, 93, 93] := by decide +kernel
theorem ex_env (ib gb : Nat) : WEnv (some ⟨gb, 0, none⟩) [exP ib] (fun _ => True) qI iI := by
  refine ⟨(fun h => by cases h), ⟨by simp, fun p hp => ?_⟩, fun p hp => ?_, ex_val, fun p hp h => ?_, fun s => ?_, fun p hp h => ?_, fun x => Nat.zero_le _⟩
  · rw [List.mem_singleton.1 hp]; exact ⟨by show (0 : Nat) ≤ 2000; omega, by show (1 : Nat) ≤ 2000; omega⟩
  · rw [List.mem_singleton.1 hp]
    exact ⟨(fun _ => rfl), (fun h => by cases h), by show (0 : Nat) ≤ _; omega, by show (1 : Nat) ≤ _; omega, (fun s hs => by cases hs), by show (0 : Nat) ≤ _; omega, Nat.le_refl _, Nat.le_refl _⟩
  · rw [List.mem_singleton.1 hp] at h; exact absurd (show (6 : Int) = 4 from h) (by decide)
  · show s.length ≤ 2 * s.length; omega
  · rw [List.mem_singleton.1 hp] at h; exact absurd (show (6 : Int) = 3 from h) (by decide)
set_option maxHeartbeats 4000000 in
theorem sane_c : ∀ H, SpecH Tryz.prog 15 (pvs []) H (Ret (.bool true) H) := by
  refine pureC hm Tryz.func15 (by kernel_rfl) rfl rfl ?_
  ((conv => whnf); (repeat ((first | refine BoxN.own ?_ | refine VrN.norm (wrap_i64 (by omega)) ?_ | refine VrN.keep ?_ | refine DrawN.calm (by decide +kernel) ?_ | refine Nd.mk (by decide +kernel) ?_ | refine Nd.mk (by omega) ?_ | (refine Nd.mk ?_ ?_; focus ((repeat' (first | exact trivial | exact wkE_refl _ | refine And.intro ?_ ?_)); done)) | refine RdN.intro _ rfl (by rfl) ?_); (conv => whnf))))
  refine RwN.known [.int .i64 0] rfl fun ib => ?_
  ((conv => whnf); (repeat ((first | refine BoxN.own ?_ | refine VrN.norm (wrap_i64 (by omega)) ?_ | refine VrN.keep ?_ | refine DrawN.calm (by decide +kernel) ?_ | refine Nd.mk (by decide +kernel) ?_ | refine Nd.mk (by omega) ?_ | (refine Nd.mk ?_ ?_; focus ((repeat' (first | exact trivial | exact wkE_refl _ | refine And.intro ?_ ?_)); done)) | refine RdN.intro _ rfl (by rfl) ?_); (conv => whnf))))
  refine RwN.known [.int .i64 6, .int .i64 0, .string { data := #[] }, .slice none 0 0, .slice (some ⟨ib, 0, none⟩) 1 1] rfl fun gb => ?_
  ((conv => whnf); (repeat ((first | refine BoxN.own ?_ | refine VrN.norm (wrap_i64 (by omega)) ?_ | refine VrN.keep ?_ | refine DrawN.calm (by decide +kernel) ?_ | refine Nd.mk (by decide +kernel) ?_ | refine Nd.mk (by omega) ?_ | (refine Nd.mk ?_ ?_; focus ((repeat' (first | exact trivial | exact wkE_refl _ | refine And.intro ?_ ?_)); done)) | refine RdN.intro _ rfl (by rfl) ?_); (conv => whnf))))
  have he := ex_env ib gb
  obtain ⟨e, he1, he2⟩ := Text_c (E := fun _ => True) 1 he.ha he.sm he.ok (fun _ => he) 0 [.app 3 1 [.int .i64 0] (some ⟨ib, 0, none⟩) 1 1, .app 42 5 [.int .i64 6, .int .i64 0, .string { data := #[] }, .slice none 0 0, .slice (some ⟨ib, 0, none⟩) 1 1] (some ⟨gb, 0, none⟩) 1 1] (fun w hw => ⟨⟨hw.2.1, fun p hp => by
    rw [List.mem_singleton.1 hp]
    exact ⟨SlAt.nil, hw.1⟩⟩, trivial⟩)
  obtain rfl : e = true := he1.2 ex_ask
  have hx : (if true = true then textP (leafS qI iI) ([exP ib].map (·.c)) 0 else []) = [91, 91, 46, 46, 46, 93, 93] := ex_text
  rw [hx] at he2
  refine call1 he2 ?_
  (first | refine wX ?_ | exact wZ)
  rfl
end Go.Proofs.YtahjbnfbilkbcaaGreatDoor

/-
  Contracts: Is and Text (document); CoreTexts (law).
-/
namespace Go.Proofs.YtahjbnfbilkbcaaGreatDoor
open Go.AX Go.RowKit Go.Core Go.Scan
set_option maxRecDepth 20000

theorem small_as {l m : List CellP} (hs : Small l) (h : m.map (·.c) = l.map (·.c)) : Small m := by
  refine ⟨by have := congrArg List.length h; simp at this; have := hs.1; omega, fun p hp => ?_⟩
  have h1 : p.c ∈ l.map (·.c) := h ▸ List.mem_map_of_mem hp
  obtain ⟨q, hq, e⟩ := List.mem_map.1 h1
  rw [← e]
  exact hs.2 q hq
theorem RIs_c (a : Option Addr) (ca : Nat) (l : List CellP) (ha : a = none → l = []) (hl : l.length ≤ 200000000000000) (hok : ∀ p ∈ l, CellOk p) (u : Int) :
    ∀ H, (∀ w, Facts H w → GrF a l w) → ∃ b : Bool, (b = true ↔ AskP (l.map (·.c)) [u]) ∧ SpecH Tryz.prog 53 (pvs [.slice a l.length ca, .int .i64 u]) H (Ret (.bool b) H) := by
  intro H hH
  obtain ⟨b, hb⟩ : ∃ b : Bool, b = true ↔ AskP (l.map (·.c)) [u] := by
    by_cases h : AskP (l.map (·.c)) [u]
    · exact ⟨true, fun _ => h, fun _ => rfl⟩
    · exact ⟨false, (fun h => by cases h), fun h2 => absurd h2 h⟩
  refine ⟨b, hb, ?_⟩
  have hgl : (l.map (·.c)).length = l.length := by simp
  refine factC hm Tryz.func53 (by kernel_rfl) rfl rfl ?_ H hH
  (first | refine wX ?_ | exact wZ)
  obtain ⟨v, hv1, hv2⟩ := Valid_c a ca l ha hl hok [.fact (GrF a l)] (fun w hw => hw.1)
  refine call1 hv2 ?_
  cases v with
  | false =>
    (first | refine wX ?_ | exact wZ)
    exact out_bool (by
      cases b with
      | false => rfl
      | true => exact absurd (hv1.2 (hb.1 rfl).1) (by decide))
  | true =>
    (first | refine wX ?_ | exact wZ)
    refine brd_dec (fun h1 => ?_) (fun h1 => ?_)
    · (first | refine wX ?_ | exact wZ)
      refine out_bool ?_
      rw [Bool.eq_iff_iff, hb, decide_eq_true_eq]
      constructor
      · intro h
        exact ⟨hv1.1 rfl, fun x hx => by rw [List.mem_singleton.1 hx]; omega⟩
      · intro h
        have := h.2 u (by simp)
        omega
    · (first | refine wX ?_ | exact wZ)
      refine out_bool ?_
      cases b with
      | false => rfl
      | true => have := (hb.1 rfl).2 u (by simp); omega
/-- The text that the document tells. -/
def textD (lf : Cell → List UInt8) (g : List Cell) (u : Int) : List UInt8 := (docS 20000 lf g (g.length + 2) [] [] u).take 20000
theorem text_eq {lf : Cell → List UInt8} {g : List Cell} (hv : ValidP g) (u : Int) : textP lf g u = textD lf g u := by
  unfold textP textD
  exact write_doc (fun a h8 => by
    rcases at_cases g a with h | h
    · exact cellD_lens (hv.2.1 _ h) h8
    · rw [h] at h8; exact absurd h8 (by decide)) _ _ _ _
theorem RText_c (a : Option Addr) (ca : Nat) (l : List CellP) (ha : a = none → l = []) (hs : Small l) (hok : ∀ p ∈ l, CellOk p) (u : Int) :
    ∀ H, (∀ w, Facts H w → gF a l TabF w) → ∃ e : Bool, (e = true ↔ AskP (l.map (·.c)) [u]) ∧ SpecH Tryz.prog 21 (pvs [.slice a l.length ca, .int .i64 u]) H (Ret (.tuple #[.string (bs (if e then textD (leafS qL itL) (l.map (·.c)) u else [])), errI e]) H) := by
  intro H hH
  obtain ⟨e, he⟩ : ∃ b : Bool, b = true ↔ AskP (l.map (·.c)) [u] := by
    by_cases h : AskP (l.map (·.c)) [u]
    · exact ⟨true, fun _ => h, fun _ => rfl⟩
    · exact ⟨false, (fun h => by cases h), fun h2 => absurd h2 h⟩
  refine ⟨e, he, ?_⟩
  have hl := hs.1
  refine factC hm Tryz.func21 (by kernel_rfl) rfl rfl ?_ H hH
  (first | refine wX ?_ | exact wZ)
  obtain ⟨t, ht1, ht2⟩ := RIs_c a ca l ha (by omega) hok u [.fact (gF a l TabF)] (fun w hw => hw.1.1)
  obtain rfl : t = e := by rw [Bool.eq_iff_iff, ht1, he]
  refine call1 ht2 ?_
  cases t with
  | false =>
    (first | refine wX ?_ | exact wZ)
    rfl
  | true =>
    have hask := he.1 rfl
    have hu := hask.2 u (by simp)
    obtain ⟨v, rfl⟩ : ∃ v : Nat, u = (v : Int) := ⟨u.toNat, by omega⟩
    have hgl : (l.map (·.c)).length = l.length := by simp
    have V := envL ha hs hok hask.1
    (first | refine wX ?_ | exact wZ)
    have h500 := hask.1.1
    refine call1 (written_c ca V (l.length + 2) [] none 0 [] v (by omega) (fun _ => rfl) List.nodup_nil (fun x hx => by cases hx) (by simp) (by omega) (by simp) _ (fun w hw => ⟨hw.1, SlAt.nil⟩)) ?_
    have htp : textD (leafS qL itL) (l.map (·.c)) (v : Int) = (docS 20000 (leafS qL itL) (l.map (·.c)) (l.length + 2) [] [] (v : Int)).take 20000 := by unfold textD; rw [hgl]
    rw [htp]
    have hdl := doc_len (M := 20000) V.short (l.length + 2) [] [] (v : Int)
    generalize docS 20000 (leafS qL itL) (l.map (·.c)) (l.length + 2) [] [] (v : Int) = T at *
    (first | refine wX ?_ | exact wZ)
    rw [bs_size]
    refine brd_dec (fun h1 => ?_) (fun h1 => ?_)
    · (first | refine wX ?_ | exact wZ)
      refine ReadW.sl_h 20000 rfl Tryz.underlying9 rfl rfl ⟨rfl, by omega⟩ ?_
      (first | refine wX ?_ | exact wZ)
      rfl
    · rw [List.take_of_length_le (by omega)]
      (first | refine wX ?_ | exact wZ)
      rfl
set_option maxHeartbeats 4000000 in
theorem CoreTexts_c (a : Option Addr) (ca : Nat) (l : List CellP) (ha : a = none → l = []) (hl : l.length ≤ 200000000000000) (hok : ∀ p ∈ l, CellOk p) (u : Int) : ∀ H, (∀ w, Facts H w → gF a l TabF w) → SpecH Tryz.prog 4 (pvs [.slice a l.length ca, .int .i64 u]) H (Ret (.bool true) H) := by
  refine factC hm Tryz.func4 (by kernel_rfl) rfl rfl ?_
  (first | refine wX ?_ | exact wZ)
  refine call1 (large_c a ca l ha hl hok _ (fun w hw => hw.1.1)) ?_
  cases hlb : largeB l with
  | true =>
    (first | refine wX ?_ | exact wZ)
    refine call1 (sane_c _) ?_
    (first | refine wX ?_ | exact wZ)
  | false =>
    have hs := small_of hlb
    (first | refine wX ?_ | exact wZ)
    obtain ⟨e, he, hes⟩ := Text_c (E := TabF) ca ha hs hok (envL ha hs hok) u [.fact (gF a l TabF)] (fun w hw => hw.1)
    refine call1 hes ?_
    (first | refine wX ?_ | exact wZ)
    refine SpecF.call (as_c a ca l ha hs hok) (fun w hw => hw.1.1) fun v G hv => ?_
    obtain ⟨oa, oc, m, rfl, hoa, hmc, hmo, hG⟩ := hv
    have hml : m.length = l.length := by have := congrArg List.length hmc; simpa using this
    have hms : Small m := small_as hs hmc
    (first | refine wX ?_ | exact wZ)
    obtain ⟨e2, he2, hes2⟩ := RText_c oa oc m hoa hms hmo u [.fact (gF a l TabF), .fact G] (fun w hw => ⟨hG w hw.2.1, hw.1.2⟩)
    rw [hmc] at he2 hes2
    obtain rfl : e2 = e := by rw [Bool.eq_iff_iff, he, he2]
    refine call1 hes2 ?_
    have hte : (if e2 = true then textD (leafS qL itL) (l.map (·.c)) u else []) = (if e2 = true then textP (leafS qL itL) (l.map (·.c)) u else []) := by
      cases e2 with
      | false => rfl
      | true => rw [if_pos rfl, if_pos rfl, text_eq (he.1 rfl).1]
    rw [hte]
    generalize bs (if e2 = true then textP (leafS qL itL) (l.map (·.c)) u else []) = B at *
    unfold errI
    generalize (if e2 = true then (0 : Int) else 1) = x at *
    (first | refine wX ?_ | exact wZ)
    rw [beq_self_eq_true]
    (first | refine wX ?_ | exact wZ)
    rw [beq_self_eq_true]
    (first | refine wX ?_ | exact wZ)
    refine call1 (sane_c _) ?_
    (first | refine wX ?_ | exact wZ)
end Go.Proofs.YtahjbnfbilkbcaaGreatDoor
