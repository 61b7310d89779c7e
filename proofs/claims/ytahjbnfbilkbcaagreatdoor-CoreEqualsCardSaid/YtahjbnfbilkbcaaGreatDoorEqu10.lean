/-
  CoreEqualsCardSaid is proved: of every graph and two cells CoreEquals returns true and leaves its arguments as they were; the listed tables are tied to the program's text.
-/
import Derived.Lib.ItoaLen
import Derived.Lib.AppendIntMem
import Derived.Test.YtahjbnfbilkbcaaGreatDoorCards
import Derived.Test.YtahjbnfbilkbcaaGreatDoorTie
import Derived.Test.YtahjbnfbilkbcaaGreatDoorEqu9
/-
  Contract: the writer writes its first cell (program).
-/
namespace Go.Proofs.YtahjbnfbilkbcaaGreatDoor
open Go.AX Go.RowKit Go.Core Go.Scan
set_option maxRecDepth 20000

set_option maxHeartbeats 8000000 in
theorem write_f {a : Option Addr} (ca : Nat) {l : List CellP} {E : World → Prop} {qt : List UInt8 → List UInt8} {it : Int → List UInt8} (V : WEnv a l E qt it) (m : Nat) (hn : m + 1 ≤ 600) (out : List UInt8) (way : List Int) (i j : BSt) (u : Nat) (hi : i.ok out.length) (hj : j.ok way.length) (hu : u < l.length) (hw : way.Nodup) (hr : ∀ x ∈ way, 0 ≤ x ∧ x < (l.length : Int)) (hf : l.length + 2 ≤ m + 1 + way.length) (hM : ¬ 20000 < out.length) :
    SpecH Tryz.prog 51 [.c (.lp 0 0), .c (.v (.int .i64 (u : Int)))] (wH (.slice a l.length ca) (gF a l E) false out i way j) (wR (.slice a l.length ca) (gF a l E) way (writeS 20000 (leafS qt it) (l.map (·.c)) (m + 1) out way u)) := by
  have ih := write_t ca V m
  obtain ⟨p, hp⟩ : ∃ p, l[u]? = some p := ⟨_, List.getElem?_eq_getElem hu⟩
  have hpm := List.mem_of_getElem? hp
  have hsa : a.isSome = true := by
    have := V.ha
    cases a with
    | none => rw [this rfl] at hp; cases hp
    | some b => rfl
  have hat : at_ (l.map (·.c)) (u : Int) = p.c := at_map hp
  have hcd : cellD l.length p.c = true := by
    have := V.val.2.1 p.c (List.mem_map.2 ⟨p, hpm, rfl⟩)
    simpa using this
  have hpo := V.ok p hpm
  have hps := V.sm.2 p hpm
  have hsml := V.sm.1
  have hq4 := V.q p hpm
  have hit := V.i p hpm
  have hql := V.ql
  have hil3 := V.il
  have hsh := V.short
  have htx := cellD_text hcd
  have hk := cellD_kind hcd
  have hwl := way_le hw hr
  obtain ⟨⟨kind, num, text, names, items⟩, na, nc, ia, ic⟩ := p
  simp only at hat hcd hps hq4 hit hk htx
  have hkk : kind = 0 ∨ kind = 1 ∨ kind = 2 ∨ kind = 3 ∨ kind = 4 ∨ kind = 5 ∨ kind = 6 ∨ kind = 7 ∨ kind = 8 := by omega
  rcases hkk with rfl | rfl | rfl | rfl | rfl | rfl | rfl | rfl | rfl
  · -- [110, 105, 108]: the text of the leaf, 0: the kind
    have hwr : writeS 20000 (leafS qt it) (l.map (·.c)) (m + 1) out way u = out ++ ([110, 105, 108]) := by
      unfold writeS
      rw [if_neg hM, hat, if_pos (show isLeaf (Cell.mk 0 num text names items) = true from rfl)]
      rfl
    rw [hwr]
    -- 0: the kind
    refine ownC hm Tryz.func51 (by kernel_rfl) rfl rfl (fun _ _ => wH_ok _ _ _ _ _ _ _) (fun _ _ => Nat.le_refl _) ?_
    (first | refine wX ?_ | exact wZ)
    refine callG (Len_w _ _ way j false out i) [0, 1, 2, 3] rfl ⟨rfl, rfl, rfl, rfl, trivial⟩ rfl fun _ _ => ?_
    (first | refine wX ?_ | exact wZ)
    refine brd_dec (fun h => absurd h (by omega)) (fun _ => ?_)
    (first | refine wX ?_ | exact wZ)
    refine Nd.mk ⟨hsa, by omega, by omega⟩ ?_
    (first | refine wX ?_ | exact wZ)
    refine LdN.agg [.int .i64 0, .int .i64 num, .string (bs text), .slice na names.length nc, .slice ia items.length ic] rfl (fun w hw => hw.2.2.1.1.1) rfl (fun k hk => by rw [Int.toNat_natCast]; exact grC_get l u k hk hp) ?_
    ((conv => whnf); (repeat ((first | refine BoxN.own ?_ | refine RwN.own ?_ | refine VrN.norm (wrap_i64 (by omega)) ?_ | refine VrN.keep ?_ | refine Nd.mk (by decide +kernel) ?_ | refine Nd.mk (by omega) ?_ | (refine Nd.mk ?_ ?_; focus ((repeat' (first | exact trivial | exact wkE_refl _ | refine And.intro ?_ ?_)); done)) | refine RdN.intro _ rfl (by rfl) ?_); (conv => whnf))))
    -- [110, 105, 108]: the text of the leaf
    refine callG (WriteString_w _ _ way j false out ([110, 105, 108]) i hi (by first | omega | (simp; omega))) [0, 1, 2, 3] rfl ⟨rfl, rfl, rfl, rfl, trivial⟩ rfl fun i2 hi2 => ?_
    (first | refine wX ?_ | exact wZ)
    exact ⟨(i2, j), ⟨hi2, hj⟩, rfl, by (repeat' (first | exact trivial | exact wkE_refl _ | refine And.intro ?_ ?_))⟩
  · -- [116, 114, 117, 101]: the text of the leaf, 1: the kind
    have hwr : writeS 20000 (leafS qt it) (l.map (·.c)) (m + 1) out way u = out ++ ([116, 114, 117, 101]) := by
      unfold writeS
      rw [if_neg hM, hat, if_pos (show isLeaf (Cell.mk 1 num text names items) = true from rfl)]
      rfl
    rw [hwr]
    -- 1: the kind
    refine ownC hm Tryz.func51 (by kernel_rfl) rfl rfl (fun _ _ => wH_ok _ _ _ _ _ _ _) (fun _ _ => Nat.le_refl _) ?_
    (first | refine wX ?_ | exact wZ)
    refine callG (Len_w _ _ way j false out i) [0, 1, 2, 3] rfl ⟨rfl, rfl, rfl, rfl, trivial⟩ rfl fun _ _ => ?_
    (first | refine wX ?_ | exact wZ)
    refine brd_dec (fun h => absurd h (by omega)) (fun _ => ?_)
    (first | refine wX ?_ | exact wZ)
    refine Nd.mk ⟨hsa, by omega, by omega⟩ ?_
    (first | refine wX ?_ | exact wZ)
    refine LdN.agg [.int .i64 1, .int .i64 num, .string (bs text), .slice na names.length nc, .slice ia items.length ic] rfl (fun w hw => hw.2.2.1.1.1) rfl (fun k hk => by rw [Int.toNat_natCast]; exact grC_get l u k hk hp) ?_
    ((conv => whnf); (repeat ((first | refine BoxN.own ?_ | refine RwN.own ?_ | refine VrN.norm (wrap_i64 (by omega)) ?_ | refine VrN.keep ?_ | refine Nd.mk (by decide +kernel) ?_ | refine Nd.mk (by omega) ?_ | (refine Nd.mk ?_ ?_; focus ((repeat' (first | exact trivial | exact wkE_refl _ | refine And.intro ?_ ?_)); done)) | refine RdN.intro _ rfl (by rfl) ?_); (conv => whnf))))
    -- true: which, [116, 114, 117, 101]: the text
    refine DrawN.planQ [0, 3] [1, 2, 4, 5, 6] [(7, 0)] (by decide +kernel) ?_
    (first | refine wX ?_ | exact wZ)
    refine callQ (FormatBool_c true ([116, 114, 117, 101]) (by decide) _) ?_
    (first | refine wX ?_ | exact wZ)
    -- [116, 114, 117, 101]: the text of the leaf
    refine callG (WriteString_w _ _ way j false out ([116, 114, 117, 101]) i hi (by first | omega | (simp; omega))) [0, 1, 2, 3] rfl ⟨rfl, rfl, rfl, rfl, trivial⟩ rfl fun i2 hi2 => ?_
    (first | refine wX ?_ | exact wZ)
    exact ⟨(i2, j), ⟨hi2, hj⟩, rfl, by (repeat' (first | exact trivial | exact wkE_refl _ | refine And.intro ?_ ?_))⟩
  · -- [102, 97, 108, 115, 101]: the text of the leaf, 2: the kind
    have hwr : writeS 20000 (leafS qt it) (l.map (·.c)) (m + 1) out way u = out ++ ([102, 97, 108, 115, 101]) := by
      unfold writeS
      rw [if_neg hM, hat, if_pos (show isLeaf (Cell.mk 2 num text names items) = true from rfl)]
      rfl
    rw [hwr]
    -- 2: the kind
    refine ownC hm Tryz.func51 (by kernel_rfl) rfl rfl (fun _ _ => wH_ok _ _ _ _ _ _ _) (fun _ _ => Nat.le_refl _) ?_
    (first | refine wX ?_ | exact wZ)
    refine callG (Len_w _ _ way j false out i) [0, 1, 2, 3] rfl ⟨rfl, rfl, rfl, rfl, trivial⟩ rfl fun _ _ => ?_
    (first | refine wX ?_ | exact wZ)
    refine brd_dec (fun h => absurd h (by omega)) (fun _ => ?_)
    (first | refine wX ?_ | exact wZ)
    refine Nd.mk ⟨hsa, by omega, by omega⟩ ?_
    (first | refine wX ?_ | exact wZ)
    refine LdN.agg [.int .i64 2, .int .i64 num, .string (bs text), .slice na names.length nc, .slice ia items.length ic] rfl (fun w hw => hw.2.2.1.1.1) rfl (fun k hk => by rw [Int.toNat_natCast]; exact grC_get l u k hk hp) ?_
    ((conv => whnf); (repeat ((first | refine BoxN.own ?_ | refine RwN.own ?_ | refine VrN.norm (wrap_i64 (by omega)) ?_ | refine VrN.keep ?_ | refine Nd.mk (by decide +kernel) ?_ | refine Nd.mk (by omega) ?_ | (refine Nd.mk ?_ ?_; focus ((repeat' (first | exact trivial | exact wkE_refl _ | refine And.intro ?_ ?_)); done)) | refine RdN.intro _ rfl (by rfl) ?_); (conv => whnf))))
    -- false: which, [102, 97, 108, 115, 101]: the text
    refine DrawN.planQ [0, 3] [1, 2, 4, 5, 6] [(7, 0)] (by decide +kernel) ?_
    (first | refine wX ?_ | exact wZ)
    refine callQ (FormatBool_c false ([102, 97, 108, 115, 101]) (by decide) _) ?_
    (first | refine wX ?_ | exact wZ)
    -- [102, 97, 108, 115, 101]: the text of the leaf
    refine callG (WriteString_w _ _ way j false out ([102, 97, 108, 115, 101]) i hi (by first | omega | (simp; omega))) [0, 1, 2, 3] rfl ⟨rfl, rfl, rfl, rfl, trivial⟩ rfl fun i2 hi2 => ?_
    (first | refine wX ?_ | exact wZ)
    exact ⟨(i2, j), ⟨hi2, hj⟩, rfl, by (repeat' (first | exact trivial | exact wkE_refl _ | refine And.intro ?_ ?_))⟩
  · -- it num: the text of the leaf, 3: the kind
    have hwr : writeS 20000 (leafS qt it) (l.map (·.c)) (m + 1) out way u = out ++ (it num) := by
      unfold writeS
      rw [if_neg hM, hat, if_pos (show isLeaf (Cell.mk 3 num text names items) = true from rfl)]
      rfl
    rw [hwr]
    -- 3: the kind
    refine ownC hm Tryz.func51 (by kernel_rfl) rfl rfl (fun _ _ => wH_ok _ _ _ _ _ _ _) (fun _ _ => Nat.le_refl _) ?_
    (first | refine wX ?_ | exact wZ)
    refine callG (Len_w _ _ way j false out i) [0, 1, 2, 3] rfl ⟨rfl, rfl, rfl, rfl, trivial⟩ rfl fun _ _ => ?_
    (first | refine wX ?_ | exact wZ)
    refine brd_dec (fun h => absurd h (by omega)) (fun _ => ?_)
    (first | refine wX ?_ | exact wZ)
    refine Nd.mk ⟨hsa, by omega, by omega⟩ ?_
    (first | refine wX ?_ | exact wZ)
    refine LdN.agg [.int .i64 3, .int .i64 num, .string (bs text), .slice na names.length nc, .slice ia items.length ic] rfl (fun w hw => hw.2.2.1.1.1) rfl (fun k hk => by rw [Int.toNat_natCast]; exact grC_get l u k hk hp) ?_
    ((conv => whnf); (repeat ((first | refine BoxN.own ?_ | refine RwN.own ?_ | refine VrN.norm (wrap_i64 (by omega)) ?_ | refine VrN.keep ?_ | refine Nd.mk (by decide +kernel) ?_ | refine Nd.mk (by omega) ?_ | (refine Nd.mk ?_ ?_; focus ((repeat' (first | exact trivial | exact wkE_refl _ | refine And.intro ?_ ?_)); done)) | refine RdN.intro _ rfl (by rfl) ?_); (conv => whnf))))
    refine DrawN.planQ [0, 3] [1, 2, 4, 5] [(6, 0)] (by decide +kernel) ?_
    (first | refine wX ?_ | exact wZ)
    refine callQ (hit rfl _ (fun w hw => hw.2.2.1.2)) ?_
    (first | refine wX ?_ | exact wZ)
    have := hil3 num
    -- it num: the text of the leaf
    refine callG (WriteString_w _ _ way j false out (it num) i hi (by first | omega | (simp; omega))) [0, 1, 2, 3] rfl ⟨rfl, rfl, rfl, rfl, trivial⟩ rfl fun i2 hi2 => ?_
    (first | refine wX ?_ | exact wZ)
    exact ⟨(i2, j), ⟨hi2, hj⟩, rfl, by (repeat' (first | exact trivial | exact wkE_refl _ | refine And.intro ?_ ?_))⟩
  · -- [34] ++ qt text ++ [34]: the text of the leaf, 4: the kind
    have hwr : writeS 20000 (leafS qt it) (l.map (·.c)) (m + 1) out way u = out ++ ([34] ++ qt text ++ [34]) := by
      unfold writeS
      rw [if_neg hM, hat, if_pos (show isLeaf (Cell.mk 4 num text names items) = true from rfl)]
      rfl
    rw [hwr]
    -- 4: the kind
    refine ownC hm Tryz.func51 (by kernel_rfl) rfl rfl (fun _ _ => wH_ok _ _ _ _ _ _ _) (fun _ _ => Nat.le_refl _) ?_
    (first | refine wX ?_ | exact wZ)
    refine callG (Len_w _ _ way j false out i) [0, 1, 2, 3] rfl ⟨rfl, rfl, rfl, rfl, trivial⟩ rfl fun _ _ => ?_
    (first | refine wX ?_ | exact wZ)
    refine brd_dec (fun h => absurd h (by omega)) (fun _ => ?_)
    (first | refine wX ?_ | exact wZ)
    refine Nd.mk ⟨hsa, by omega, by omega⟩ ?_
    (first | refine wX ?_ | exact wZ)
    refine LdN.agg [.int .i64 4, .int .i64 num, .string (bs text), .slice na names.length nc, .slice ia items.length ic] rfl (fun w hw => hw.2.2.1.1.1) rfl (fun k hk => by rw [Int.toNat_natCast]; exact grC_get l u k hk hp) ?_
    ((conv => whnf); (repeat ((first | refine BoxN.own ?_ | refine RwN.own ?_ | refine VrN.norm (wrap_i64 (by omega)) ?_ | refine VrN.keep ?_ | refine Nd.mk (by decide +kernel) ?_ | refine Nd.mk (by omega) ?_ | (refine Nd.mk ?_ ?_; focus ((repeat' (first | exact trivial | exact wkE_refl _ | refine And.intro ?_ ?_)); done)) | refine RdN.intro _ rfl (by rfl) ?_); (conv => whnf))))
    refine DrawN.planQ [0, 3] [1, 2, 4, 5, 6, 7] [(8, 0)] (by decide +kernel) ?_
    (first | refine wX ?_ | exact wZ)
    refine callQ (hq4 rfl _) ?_
    (first | refine wX ?_ | exact wZ)
    have hq1 := hql text
    refine Nd.mk (by show 1 + (bs (qt text)).size < _; rw [bs_size]; omega) ?_
    (first | refine wX ?_ | exact wZ)
    rw [show (({ data := #[34] } : ByteArray) ++ bs (qt text)) = bs ([34] ++ qt text) by rw [← bs_app]; rfl]
    refine Nd.mk (by show (bs ([34] ++ qt text)).size + 1 < _; rw [bs_size]; simp; omega) ?_
    rw [show (bs ([34] ++ qt text) ++ ({ data := #[34] } : ByteArray)) = bs ([34] ++ qt text ++ [34]) by rw [← bs_app]; rfl]
    (first | refine wX ?_ | exact wZ)
    -- [34] ++ qt text ++ [34]: the text of the leaf
    refine callG (WriteString_w _ _ way j false out ([34] ++ qt text ++ [34]) i hi (by first | omega | (simp; omega))) [0, 1, 2, 3] rfl ⟨rfl, rfl, rfl, rfl, trivial⟩ rfl fun i2 hi2 => ?_
    (first | refine wX ?_ | exact wZ)
    exact ⟨(i2, j), ⟨hi2, hj⟩, rfl, by (repeat' (first | exact trivial | exact wkE_refl _ | refine And.intro ?_ ?_))⟩
  · -- [58] ++ text: the text of the leaf, 5: the kind
    have hwr : writeS 20000 (leafS qt it) (l.map (·.c)) (m + 1) out way u = out ++ ([58] ++ text) := by
      unfold writeS
      rw [if_neg hM, hat, if_pos (show isLeaf (Cell.mk 5 num text names items) = true from rfl)]
      rfl
    rw [hwr]
    -- 5: the kind
    refine ownC hm Tryz.func51 (by kernel_rfl) rfl rfl (fun _ _ => wH_ok _ _ _ _ _ _ _) (fun _ _ => Nat.le_refl _) ?_
    (first | refine wX ?_ | exact wZ)
    refine callG (Len_w _ _ way j false out i) [0, 1, 2, 3] rfl ⟨rfl, rfl, rfl, rfl, trivial⟩ rfl fun _ _ => ?_
    (first | refine wX ?_ | exact wZ)
    refine brd_dec (fun h => absurd h (by omega)) (fun _ => ?_)
    (first | refine wX ?_ | exact wZ)
    refine Nd.mk ⟨hsa, by omega, by omega⟩ ?_
    (first | refine wX ?_ | exact wZ)
    refine LdN.agg [.int .i64 5, .int .i64 num, .string (bs text), .slice na names.length nc, .slice ia items.length ic] rfl (fun w hw => hw.2.2.1.1.1) rfl (fun k hk => by rw [Int.toNat_natCast]; exact grC_get l u k hk hp) ?_
    ((conv => whnf); (repeat ((first | refine BoxN.own ?_ | refine RwN.own ?_ | refine VrN.norm (wrap_i64 (by omega)) ?_ | refine VrN.keep ?_ | refine Nd.mk (by decide +kernel) ?_ | refine Nd.mk (by omega) ?_ | (refine Nd.mk ?_ ?_; focus ((repeat' (first | exact trivial | exact wkE_refl _ | refine And.intro ?_ ?_)); done)) | refine RdN.intro _ rfl (by rfl) ?_); (conv => whnf))))
    refine DrawN.planQ [0, 3] [1, 2, 4, 5] [(6, 0)] (by decide +kernel) ?_
    (first | refine wX ?_ | exact wZ)
    refine Nd.mk (by show 1 + (bs text).size < _; rw [bs_size]; omega) ?_
    rw [show (({ data := #[58] } : ByteArray) ++ bs text) = bs ([58] ++ text) by rw [← bs_app]; rfl]
    (first | refine wX ?_ | exact wZ)
    -- [58] ++ text: the text of the leaf
    refine callG (WriteString_w _ _ way j false out ([58] ++ text) i hi (by first | omega | (simp; omega))) [0, 1, 2, 3] rfl ⟨rfl, rfl, rfl, rfl, trivial⟩ rfl fun i2 hi2 => ?_
    (first | refine wX ?_ | exact wZ)
    exact ⟨(i2, j), ⟨hi2, hj⟩, rfl, by (repeat' (first | exact trivial | exact wkE_refl _ | refine And.intro ?_ ?_))⟩
  · -- 6: the kind
    rw [writeS_in hM hat (fun h => absurd (of_decide_eq_true h) (by show ¬ (6 : Int) ≤ 5; decide))]
    -- 6: the kind
    refine ownC hm Tryz.func51 (by kernel_rfl) rfl rfl (fun _ _ => wH_ok _ _ _ _ _ _ _) (fun _ _ => Nat.le_refl _) ?_
    (first | refine wX ?_ | exact wZ)
    refine callG (Len_w _ _ way j false out i) [0, 1, 2, 3] rfl ⟨rfl, rfl, rfl, rfl, trivial⟩ rfl fun _ _ => ?_
    (first | refine wX ?_ | exact wZ)
    refine brd_dec (fun h => absurd h (by omega)) (fun _ => ?_)
    (first | refine wX ?_ | exact wZ)
    refine Nd.mk ⟨hsa, by omega, by omega⟩ ?_
    (first | refine wX ?_ | exact wZ)
    refine LdN.agg [.int .i64 6, .int .i64 num, .string (bs text), .slice na names.length nc, .slice ia items.length ic] rfl (fun w hw => hw.2.2.1.1.1) rfl (fun k hk => by rw [Int.toNat_natCast]; exact grC_get l u k hk hp) ?_
    ((conv => whnf); (repeat ((first | refine BoxN.own ?_ | refine RwN.own ?_ | refine VrN.norm (wrap_i64 (by omega)) ?_ | refine VrN.keep ?_ | refine Nd.mk (by decide +kernel) ?_ | refine Nd.mk (by omega) ?_ | (refine Nd.mk ?_ ?_; focus ((repeat' (first | exact trivial | exact wkE_refl _ | refine And.intro ?_ ?_)); done)) | refine RdN.intro _ rfl (by rfl) ?_); (conv => whnf))))
    refine spec_of_exec hm Tryz.func99 (by kernel_rfl) rfl rfl ?_
    ((conv => whnf); (repeat ((first | refine BoxN.own ?_ | refine RwN.own ?_ | refine VrN.norm (wrap_i64 (by omega)) ?_ | refine VrN.keep ?_ | refine Nd.mk (by decide +kernel) ?_ | refine Nd.mk (by omega) ?_ | (refine Nd.mk ?_ ?_; focus ((repeat' (first | exact trivial | exact wkE_refl _ | refine And.intro ?_ ?_)); done)) | refine RdN.intro _ rfl (by rfl) ?_); (conv => whnf))))
    refine SpecH.args (args' := pvs [.slice (at0 j.ob) way.length j.cap, .int .i64 (u : Int)]) (by simp [pvs, opvs, opv, nth]; try rfl) ?_
    refine call1 (contains_c j.ob j.cap way u (fun h => List.eq_nil_of_length_eq_zero (hj.1 h).1) (by omega) _ (fun w hw => hw.2.1)) ?_
    ((conv => whnf); (repeat ((first | refine BoxN.own ?_ | refine RwN.own ?_ | refine VrN.norm (wrap_i64 (by omega)) ?_ | refine VrN.keep ?_ | refine Nd.mk (by decide +kernel) ?_ | refine Nd.mk (by omega) ?_ | (refine Nd.mk ?_ ?_; focus ((repeat' (first | exact trivial | exact wkE_refl _ | refine And.intro ?_ ?_)); done)) | refine RdN.intro _ rfl (by rfl) ?_); (conv => whnf))))
    try refine Nd.mk ⟨Nat.le_refl 1, rfl, rfl⟩ ?_
    (conv => whnf)
    refine AppN.grow 2 (iC way) [.int .i64 (u : Int)] rfl rfl ⟨Nat.le_refl 1, ⟨by show (way.length + 1) * 8 ≤ _; omega, by omega⟩, Nat.one_ne_zero⟩ fun wb wc hwc _ => ?_
    obtain ⟨way2, hway2⟩ : ∃ w2, w2 = way ++ [(u : Int)] := ⟨_, rfl⟩
    have hcl : iC way ++ [.int .i64 (u : Int)] = iC way2 := by rw [hway2]; simp [iC]
    have hll : way.length + 1 = way2.length := by rw [hway2]; simp
    rw [hcl, hll]
    ((conv => whnf); (repeat ((first | refine BoxN.own ?_ | refine RwN.own ?_ | refine VrN.norm (wrap_i64 (by omega)) ?_ | refine VrN.keep ?_ | refine Nd.mk (by decide +kernel) ?_ | refine Nd.mk (by omega) ?_ | (refine Nd.mk ?_ ?_; focus ((repeat' (first | exact trivial | exact wkE_refl _ | refine And.intro ?_ ?_)); done)) | refine RdN.intro _ rfl (by rfl) ?_); (conv => whnf))))
    -- [91]: what is written, i2: the place behind
    refine callG (WriteString_w _ _ way2 ⟨some wb, wc⟩ false out ([91]) i hi (by first | omega | (simp; omega))) [0, 1, 2, 3] rfl ⟨rfl, rfl, rfl, rfl, trivial⟩ rfl fun i2 hi2 => ?_
    ((conv => whnf); (repeat ((first | refine BoxN.own ?_ | refine RwN.own ?_ | refine VrN.norm (wrap_i64 (by omega)) ?_ | refine VrN.keep ?_ | refine Nd.mk (by decide +kernel) ?_ | refine Nd.mk (by omega) ?_ | (refine Nd.mk ?_ ?_; focus ((repeat' (first | exact trivial | exact wkE_refl _ | refine And.intro ?_ ?_)); done)) | refine RdN.intro _ rfl (by rfl) ?_); (conv => whnf))))
    -- [91]: front, [46, 46, 46]: mark, [93]: back
    cases hun : decide ((u : Int) ∈ way) with
    | true =>
      rw [if_pos (of_decide_eq_true hun)]
      ((conv => whnf); (repeat ((first | refine BoxN.own ?_ | refine RwN.own ?_ | refine VrN.norm (wrap_i64 (by omega)) ?_ | refine VrN.keep ?_ | refine Nd.mk (by decide +kernel) ?_ | refine Nd.mk (by omega) ?_ | (refine Nd.mk ?_ ?_; focus ((repeat' (first | exact trivial | exact wkE_refl _ | refine And.intro ?_ ?_)); done)) | refine RdN.intro _ rfl (by rfl) ?_); (conv => whnf))))
      -- out ++ ([91]): what is there, [46, 46, 46]: what is written, i2: the Builder's place, hi2: its word, i3: the place behind
      refine callG (WriteString_w _ _ way2 ⟨some wb, wc⟩ true (out ++ ([91])) ([46, 46, 46]) i2 hi2 (by first | omega | (simp; omega))) [0, 1, 2, 3] rfl ⟨rfl, rfl, rfl, rfl, trivial⟩ rfl fun i3 hi3 => ?_
      ((conv => whnf); (repeat ((first | refine BoxN.own ?_ | refine RwN.own ?_ | refine VrN.norm (wrap_i64 (by omega)) ?_ | refine VrN.keep ?_ | refine Nd.mk (by decide +kernel) ?_ | refine Nd.mk (by omega) ?_ | (refine Nd.mk ?_ ?_; focus ((repeat' (first | exact trivial | exact wkE_refl _ | refine And.intro ?_ ?_)); done)) | refine RdN.intro _ rfl (by rfl) ?_); (conv => whnf))))
      -- out ++ ([91]) ++ ([46, 46, 46]): what is there, [93]: what is written, i3: the Builder's place, hi3: its word, i4: the place behind
      refine callG (WriteString_w _ _ way2 ⟨some wb, wc⟩ true (out ++ ([91]) ++ ([46, 46, 46])) ([93]) i3 hi3 (by first | omega | (simp; omega))) [0, 1, 2, 3] rfl ⟨rfl, rfl, rfl, rfl, trivial⟩ rfl fun i4 hi4 => ?_
      ((conv => whnf); (repeat ((first | refine BoxN.own ?_ | refine RwN.own ?_ | refine VrN.norm (wrap_i64 (by omega)) ?_ | refine VrN.keep ?_ | refine Nd.mk (by decide +kernel) ?_ | refine Nd.mk (by omega) ?_ | (refine Nd.mk ?_ ?_; focus ((repeat' (first | exact trivial | exact wkE_refl _ | refine And.intro ?_ ?_)); done)) | refine RdN.intro _ rfl (by rfl) ?_); (conv => whnf))))
      -- i4: the Builder's place
      refine DrawN.plan [0, 1, 5] [(2, 1), (3, 1), (4, 1), (6, 1), (7, 1), (8, 1), (9, 1), (10, 1), (11, 1), (12, 1), (13, 1)] [(14, 0)] (by decide +kernel) ?_
      ((conv => whnf); (repeat ((first | refine BoxN.own ?_ | refine RwN.own ?_ | refine VrN.norm (wrap_i64 (by omega)) ?_ | refine VrN.keep ?_ | refine Nd.mk (by decide +kernel) ?_ | refine Nd.mk (by omega) ?_ | (refine Nd.mk ?_ ?_; focus ((repeat' (first | exact trivial | exact wkE_refl _ | refine And.intro ?_ ?_)); done)) | refine RdN.intro _ rfl (by rfl) ?_); (conv => whnf))))
      rw [show IntKind.i64.wrap ((way2.length : Int) - 1) = (way.length : Int) by rw [wrap_i64 (by omega)]; omega]
      refine ReadW.slc_hi rfl (by kernel_rfl) rfl rfl (by show (0 : Int) ≤ (way.length : Int) ∧ (way.length : Int) ≤ (wc : Int); omega) ?_
      rw [Int.toNat_natCast]
      ((conv => whnf); (repeat ((first | refine BoxN.own ?_ | refine RwN.own ?_ | refine VrN.norm (wrap_i64 (by omega)) ?_ | refine VrN.keep ?_ | refine Nd.mk (by decide +kernel) ?_ | refine Nd.mk (by omega) ?_ | (refine Nd.mk ?_ ?_; focus ((repeat' (first | exact trivial | exact wkE_refl _ | refine And.intro ?_ ?_)); done)) | refine RdN.intro _ rfl (by rfl) ?_); (conv => whnf))))
      refine ⟨(i4, ⟨some wb, wc⟩), ⟨hi4, (fun h => by cases h), by show way.length ≤ wc; omega, fun h => by have : wc = 0 := h; omega⟩, rfl, ⟨rfl, rfl, rfl, rfl, rfl, trivial⟩, wkE_refl _, .inr (.inr ⟨rfl, rfl, ?_, rfl, by omega, rfl⟩), wkE_refl _, trivial⟩
      rw [hway2, Nat.mul_one]
      simp [iC]
    | false =>
    rw [if_neg (of_decide_eq_false hun)]
    ((conv => whnf); (repeat ((first | refine BoxN.own ?_ | refine RwN.own ?_ | refine VrN.norm (wrap_i64 (by omega)) ?_ | refine VrN.keep ?_ | refine Nd.mk (by decide +kernel) ?_ | refine Nd.mk (by omega) ?_ | (refine Nd.mk ?_ ?_; focus ((repeat' (first | exact trivial | exact wkE_refl _ | refine And.intro ?_ ?_)); done)) | refine RdN.intro _ rfl (by rfl) ?_); (conv => whnf))))
    -- 6: the kind, [91]: the front
    rw [← hway2]
    have hnd2 : way2.Nodup := by
      rw [hway2]
      exact List.nodup_append.2 ⟨hw, by simp, fun x hx y hy => by
        rw [List.mem_singleton.1 hy]
        intro e
        subst e
        exact of_decide_eq_false hun hx⟩
    have hr2 : ∀ x ∈ way2, 0 ≤ x ∧ x < (l.length : Int) := fun x hx => by
      rw [hway2] at hx
      rcases List.mem_append.1 hx with hx | hx
      · exact hr x hx
      · rw [List.mem_singleton.1 hx]; omega
    obtain ⟨ff, hff⟩ : ∃ ff, ff = fun o k => writeS 20000 (leafS qt it) (l.map (·.c)) m o way2 k := ⟨_, rfl⟩
    rw [← hff]
    have hfx : ∀ o x, ff o x = writeS 20000 (leafS qt it) (l.map (·.c)) m o way2 x := fun o x => by rw [hff]
    have hpre : ∀ i, (preT (Cell.mk 6 num text names items) i).length ≤ 50 := fun i => by
      have := pre_le hsh (u : Int) i
      rw [hat] at this
      exact this
    have hfold : ∀ k, (foldT ff (preT (Cell.mk 6 num text names items)) 0 (items.take k) (out ++ ([91]))).length ≤ 130000000 := fun k => by
      have hfl : (out ++ ([91])).length ≤ out.length + 2002 := by simp; try omega
      have := foldT_len (M := 20000) (f := ff) (pre := preT (Cell.mk 6 num text names items)) (p := 50) (X := 20000 + m * 200000) hpre (by omega) (fun o k ho => by rw [hff]; exact write_same m o _ k ho) (fun o k ho => by rw [hff]; have := write_len (M := 20000) hsh m o way2 k; show (writeS _ _ _ _ _ _ _).length ≤ _; omega) (items.take k) 0 (out ++ ([91])) (22002 + m * 200000) (by omega) (by omega)
      rw [List.length_take] at this
      omega
    refine spec_of_exec hm Tryz.func122 (by kernel_rfl) rfl rfl ?_
    ((conv => whnf); (repeat ((first | refine BoxN.own ?_ | refine RwN.own ?_ | refine VrN.norm (wrap_i64 (by omega)) ?_ | refine VrN.keep ?_ | refine Nd.mk (by decide +kernel) ?_ | refine Nd.mk (by omega) ?_ | (refine Nd.mk ?_ ?_; focus ((repeat' (first | exact trivial | exact wkE_refl _ | refine And.intro ?_ ?_)); done)) | refine RdN.intro _ rfl (by rfl) ?_); (conv => whnf))))
    -- 6: the kind, [91]: the front
    refine LoopN.intro (Nat × BSt × BSt) (fun ⟨k, i, j⟩ => k ≤ items.length ∧ i.ok (foldT ff (preT (Cell.mk 6 num text names items)) 0 (items.take k) (out ++ ([91]))).length ∧ j.ok way2.length) (fun ⟨k, _, _⟩ => mkS Tryz.f122.ntmps 0 [(0, .c (.lp 0 0)), (3, .c (.lp 7 0)), (7, .c (.v (.slice ia items.length ic))), (8, .c (.v (.int .i64 (items.length : Int)))), (9, .c (.v (.int .i64 (k : Int))))])
      (fun ⟨k, i, j⟩ => wH (.slice a l.length ca) (gF a l E) true (foldT ff (preT (Cell.mk 6 num text names items)) 0 (items.take k) (out ++ ([91]))) i way2 j ++ [.dead, .dead, .dead, .blk 42 [.v (.int .i64 6), .v (.int .i64 num), .v (.string (bs text)), .v (.slice na names.length nc), .v (.slice ia items.length ic)]]) (fun ⟨k, _, _⟩ => items.length - k) [] rfl (fun ⟨_, _, _⟩ => rfl) (fun ⟨_, _, _⟩ => rfl) (fun ⟨_, _, _⟩ _ => okHB_eq rfl) ?_ ?_
    · refine ⟨(0, i2, ⟨some wb, wc⟩), ⟨Nat.zero_le _, hi2, (fun h => by cases h), by show way2.length ≤ wc; omega, fun h => by have : wc = 0 := h; omega⟩, ?_, wkE_refl _, wkE_refl _, wkE_refl _, wkE_refl _, trivial, trivial, trivial, wkE_refl _, trivial⟩
      (repeat' (first | exact trivial | refine And.intro (by with_reducible rfl) ?_ | (with_reducible exact wkC_refl _) | (with_reducible exact wkCs_refl _) | refine And.intro ?_ ?_))
      all_goals rfl
    rintro ⟨k, i3, j3⟩ ⟨hk3, hi3, hj3⟩
    ((conv => whnf); (repeat ((first | refine BoxN.own ?_ | refine RwN.own ?_ | refine VrN.norm (wrap_i64 (by omega)) ?_ | refine VrN.keep ?_ | refine Nd.mk (by decide +kernel) ?_ | refine Nd.mk (by omega) ?_ | (refine Nd.mk ?_ ?_; focus ((repeat' (first | exact trivial | exact wkE_refl _ | refine And.intro ?_ ?_)); done)) | refine RdN.intro _ rfl (by rfl) ?_); (conv => whnf))))
    refine brd_dec (fun h1 => ?_) (fun h1 => ?_)
    · obtain ⟨x, hx⟩ : ∃ x, items[k]? = some x := ⟨_, List.getElem?_eq_getElem (by omega)⟩
      have hxin := cellD_in hcd x (List.mem_of_getElem? hx)
      obtain ⟨xn, rfl⟩ : ∃ xn : Nat, x = (xn : Int) := ⟨x.toNat, by omega⟩
      have hx1 : xn < l.length := by omega
      have hsi : ia.isSome = true := by
        have := hpo.ia
        cases ia with
        | none =>
          have h0 : items = [] := this rfl
          rw [h0] at hx
          cases hx
        | some b => rfl
      ((conv => whnf); (repeat ((first | refine BoxN.own ?_ | refine RwN.own ?_ | refine VrN.norm (wrap_i64 (by omega)) ?_ | refine VrN.keep ?_ | refine Nd.mk (by decide +kernel) ?_ | refine Nd.mk (by omega) ?_ | (refine Nd.mk ?_ ?_; focus ((repeat' (first | exact trivial | exact wkE_refl _ | refine And.intro ?_ ?_)); done)) | refine RdN.intro _ rfl (by rfl) ?_); (conv => whnf))))
      refine Nd.mk ⟨hsi, by omega, by omega⟩ ?_
      ((conv => whnf); (repeat ((first | refine BoxN.own ?_ | refine RwN.own ?_ | refine VrN.norm (wrap_i64 (by omega)) ?_ | refine VrN.keep ?_ | refine Nd.mk (by decide +kernel) ?_ | refine Nd.mk (by omega) ?_ | (refine Nd.mk ?_ ?_; focus ((repeat' (first | exact trivial | exact wkE_refl _ | refine And.intro ?_ ?_)); done)) | refine RdN.intro _ rfl (by rfl) ?_); (conv => whnf))))
      refine LdN.one (.int .i64 (xn : Int)) rfl (fun w hw => (hw.2.2.1.1.2 _ hpm).2) (by rw [Int.toNat_natCast]; show (iC items)[k * 1]? = _; rw [Nat.mul_one]; exact iC_get hx) ?_
      ((conv => whnf); (repeat ((first | refine BoxN.own ?_ | refine RwN.own ?_ | refine VrN.norm (wrap_i64 (by omega)) ?_ | refine VrN.keep ?_ | refine Nd.mk (by decide +kernel) ?_ | refine Nd.mk (by omega) ?_ | (refine Nd.mk ?_ ?_; focus ((repeat' (first | exact trivial | exact wkE_refl _ | refine And.intro ?_ ?_)); done)) | refine RdN.intro _ rfl (by rfl) ?_); (conv => whnf))))
      refine brd_dec (fun hk0 => ?_) (fun hk0 => ?_)
      · ((conv => whnf); (repeat ((first | refine BoxN.own ?_ | refine RwN.own ?_ | refine VrN.norm (wrap_i64 (by omega)) ?_ | refine VrN.keep ?_ | refine Nd.mk (by decide +kernel) ?_ | refine Nd.mk (by omega) ?_ | (refine Nd.mk ?_ ?_; focus ((repeat' (first | exact trivial | exact wkE_refl _ | refine And.intro ?_ ?_)); done)) | refine RdN.intro _ rfl (by rfl) ?_); (conv => whnf))))
        -- 6: the kind, [91]: the front, [44, 32]: what stands ahead, by rw [preT_6 rfl, if_pos (by omega)]: why
        refine callG (WriteString_w _ _ way2 j3 true (foldT ff (preT (Cell.mk 6 num text names items)) 0 (items.take k) (out ++ ([91]))) ([44, 32]) i3 hi3 (by have := hfold k; simp only [List.length_cons, List.length_nil]; omega)) [0, 1, 2, 3] rfl ⟨rfl, rfl, rfl, rfl, trivial⟩ rfl fun i6 hi6 => ?_
        ((conv => whnf); (repeat ((first | refine BoxN.own ?_ | refine RwN.own ?_ | refine VrN.norm (wrap_i64 (by omega)) ?_ | refine VrN.keep ?_ | refine Nd.mk (by decide +kernel) ?_ | refine Nd.mk (by omega) ?_ | (refine Nd.mk ?_ ?_; focus ((repeat' (first | exact trivial | exact wkE_refl _ | refine And.intro ?_ ?_)); done)) | refine RdN.intro _ rfl (by rfl) ?_); (conv => whnf))))
        -- an item is written, and the round is over; [44, 32]: what stands ahead of it, i6: the Builder's place, by rw [preT_6 rfl, if_pos (by omega)]: the proof that it stands ahead
        refine callG (ih (by omega) (foldT ff (preT (Cell.mk 6 num text names items)) 0 (items.take k) (out ++ ([91])) ++ ([44, 32])) way2 i6 j3 xn (hi6) hj3 hx1 hnd2 hr2 (by omega) (by have := hfold k; simp only [List.length_append, List.length_cons, List.length_nil]; omega)) [0, 1, 2, 3] rfl ⟨rfl, rfl, rfl, rfl, trivial⟩ rfl fun st hst => ?_
        obtain ⟨i5, j5⟩ := st
        obtain ⟨hi5, hj5⟩ := hst
        simp only at hi5 hj5
        ((conv => whnf); (repeat ((first | refine BoxN.own ?_ | refine RwN.own ?_ | refine VrN.norm (wrap_i64 (by omega)) ?_ | refine VrN.keep ?_ | refine Nd.mk (by decide +kernel) ?_ | refine Nd.mk (by omega) ?_ | (refine Nd.mk ?_ ?_; focus ((repeat' (first | exact trivial | exact wkE_refl _ | refine And.intro ?_ ?_)); done)) | refine RdN.intro _ rfl (by rfl) ?_); (conv => whnf))))
        have hfs := foldT_take (f := ff) (pre := preT (Cell.mk 6 num text names items)) hx (out ++ ([91]))
        rw [show preT (Cell.mk 6 num text names items) k = [44, 32] from by rw [preT_6 rfl, if_pos (by omega)], hfx] at hfs
        refine ⟨(k + 1, i5, j5), ⟨by omega, by rw [hfs]; exact hi5, hj5⟩, by show items.length - (k + 1) < items.length - k; omega, ?_, ?_⟩
        · (repeat' (first | exact trivial | refine And.intro (by with_reducible rfl) ?_ | (with_reducible exact wkC_refl _) | (with_reducible exact wkCs_refl _) | refine And.intro ?_ ?_))
          all_goals first | rfl | exact av_int (by rw [wrap_i64 (by omega)]; omega) | exact av_int (by omega)
        · show wkH _ (wH _ _ true (foldT ff _ 0 (items.take (k + 1)) _) _ _ _ ++ _)
          rw [hfs]
          exact ⟨wkE_refl _, wkE_refl _, wkE_refl _, wkE_refl _, trivial, trivial, trivial, wkE_refl _, trivial⟩
      · ((conv => whnf); (repeat ((first | refine BoxN.own ?_ | refine RwN.own ?_ | refine VrN.norm (wrap_i64 (by omega)) ?_ | refine VrN.keep ?_ | refine Nd.mk (by decide +kernel) ?_ | refine Nd.mk (by omega) ?_ | (refine Nd.mk ?_ ?_; focus ((repeat' (first | exact trivial | exact wkE_refl _ | refine And.intro ?_ ?_)); done)) | refine RdN.intro _ rfl (by rfl) ?_); (conv => whnf))))
        -- 6: the kind, [91]: the front, by rw [preT_6 rfl, if_neg (by omega)]: why
        rw [show foldT ff (preT (Cell.mk 6 num text names items)) 0 (items.take k) (out ++ ([91])) = foldT ff (preT (Cell.mk 6 num text names items)) 0 (items.take k) (out ++ ([91])) ++ [] from (List.append_nil _).symm]
        -- an item is written, and the round is over; []: what stands ahead of it, i3: the Builder's place, by rw [preT_6 rfl, if_neg (by omega)]: the proof that it stands ahead
        refine callG (ih (by omega) (foldT ff (preT (Cell.mk 6 num text names items)) 0 (items.take k) (out ++ ([91])) ++ ([])) way2 i3 j3 xn (by rw [List.append_nil]; exact hi3) hj3 hx1 hnd2 hr2 (by omega) (by have := hfold k; simp only [List.length_append, List.length_cons, List.length_nil]; omega)) [0, 1, 2, 3] rfl ⟨rfl, rfl, rfl, rfl, trivial⟩ rfl fun st hst => ?_
        obtain ⟨i5, j5⟩ := st
        obtain ⟨hi5, hj5⟩ := hst
        simp only at hi5 hj5
        ((conv => whnf); (repeat ((first | refine BoxN.own ?_ | refine RwN.own ?_ | refine VrN.norm (wrap_i64 (by omega)) ?_ | refine VrN.keep ?_ | refine Nd.mk (by decide +kernel) ?_ | refine Nd.mk (by omega) ?_ | (refine Nd.mk ?_ ?_; focus ((repeat' (first | exact trivial | exact wkE_refl _ | refine And.intro ?_ ?_)); done)) | refine RdN.intro _ rfl (by rfl) ?_); (conv => whnf))))
        have hfs := foldT_take (f := ff) (pre := preT (Cell.mk 6 num text names items)) hx (out ++ ([91]))
        rw [show preT (Cell.mk 6 num text names items) k = [] from by rw [preT_6 rfl, if_neg (by omega)], hfx] at hfs
        refine ⟨(k + 1, i5, j5), ⟨by omega, by rw [hfs]; exact hi5, hj5⟩, by show items.length - (k + 1) < items.length - k; omega, ?_, ?_⟩
        · (repeat' (first | exact trivial | refine And.intro (by with_reducible rfl) ?_ | (with_reducible exact wkC_refl _) | (with_reducible exact wkCs_refl _) | refine And.intro ?_ ?_))
          all_goals first | rfl | exact av_int (by rw [wrap_i64 (by omega)]; omega) | exact av_int (by omega)
        · show wkH _ (wH _ _ true (foldT ff _ 0 (items.take (k + 1)) _) _ _ _ ++ _)
          rw [hfs]
          exact ⟨wkE_refl _, wkE_refl _, wkE_refl _, wkE_refl _, trivial, trivial, trivial, wkE_refl _, trivial⟩
    · have hin : k = items.length := by omega
      subst hin
      rw [List.take_length] at hi3 ⊢
      have hfe := hfold items.length
      rw [List.take_length] at hfe
      obtain ⟨wb, wc⟩ := j3
      cases wb with
      | none =>
        have := (hj3.1 rfl).1
        omega
      | some wb =>
      have hwc3 : way2.length ≤ wc := hj3.2.1
      ((conv => whnf); (repeat ((first | refine BoxN.own ?_ | refine RwN.own ?_ | refine VrN.norm (wrap_i64 (by omega)) ?_ | refine VrN.keep ?_ | refine Nd.mk (by decide +kernel) ?_ | refine Nd.mk (by omega) ?_ | (refine Nd.mk ?_ ?_; focus ((repeat' (first | exact trivial | exact wkE_refl _ | refine And.intro ?_ ?_)); done)) | refine RdN.intro _ rfl (by rfl) ?_); (conv => whnf))))
      refine callG (WriteString_w _ _ way2 ⟨some wb, wc⟩ true (foldT ff (preT (Cell.mk 6 num text names items)) 0 items (out ++ ([91]))) ([93]) i3 hi3 (by simp only [List.length_cons, List.length_nil]; omega)) [0, 1, 2, 3] rfl ⟨rfl, rfl, rfl, rfl, trivial⟩ rfl fun i7 hi7 => ?_
      ((conv => whnf); (repeat ((first | refine BoxN.own ?_ | refine RwN.own ?_ | refine VrN.norm (wrap_i64 (by omega)) ?_ | refine VrN.keep ?_ | refine Nd.mk (by decide +kernel) ?_ | refine Nd.mk (by omega) ?_ | (refine Nd.mk ?_ ?_; focus ((repeat' (first | exact trivial | exact wkE_refl _ | refine And.intro ?_ ?_)); done)) | refine RdN.intro _ rfl (by rfl) ?_); (conv => whnf))))
      -- i7: the Builder's place
      refine DrawN.plan [0, 1, 5] [(2, 1), (3, 1), (4, 1), (6, 1), (7, 1), (8, 1), (9, 1), (10, 1), (11, 1), (12, 1), (13, 1)] [(14, 0)] (by decide +kernel) ?_
      ((conv => whnf); (repeat ((first | refine BoxN.own ?_ | refine RwN.own ?_ | refine VrN.norm (wrap_i64 (by omega)) ?_ | refine VrN.keep ?_ | refine Nd.mk (by decide +kernel) ?_ | refine Nd.mk (by omega) ?_ | (refine Nd.mk ?_ ?_; focus ((repeat' (first | exact trivial | exact wkE_refl _ | refine And.intro ?_ ?_)); done)) | refine RdN.intro _ rfl (by rfl) ?_); (conv => whnf))))
      rw [show IntKind.i64.wrap ((way2.length : Int) - 1) = (way.length : Int) by rw [wrap_i64 (by omega)]; omega]
      refine ReadW.slc_hi rfl (by kernel_rfl) rfl rfl (by show (0 : Int) ≤ (way.length : Int) ∧ (way.length : Int) ≤ (wc : Int); omega) ?_
      rw [Int.toNat_natCast]
      ((conv => whnf); (repeat ((first | refine BoxN.own ?_ | refine RwN.own ?_ | refine VrN.norm (wrap_i64 (by omega)) ?_ | refine VrN.keep ?_ | refine Nd.mk (by decide +kernel) ?_ | refine Nd.mk (by omega) ?_ | (refine Nd.mk ?_ ?_; focus ((repeat' (first | exact trivial | exact wkE_refl _ | refine And.intro ?_ ?_)); done)) | refine RdN.intro _ rfl (by rfl) ?_); (conv => whnf))))
      refine ⟨(i7, ⟨some wb, wc⟩), ⟨hi7, (fun h => by cases h), by show way.length ≤ wc; omega, fun h => by have : wc = 0 := h; omega⟩, rfl, ⟨rfl, rfl, rfl, rfl, rfl, trivial⟩, wkE_refl _, .inr (.inr ⟨rfl, rfl, ?_, rfl, by omega, rfl⟩), wkE_refl _, trivial⟩
      rw [hway2, Nat.mul_one]
      simp [iC]
  · -- 7: the kind
    rw [writeS_in hM hat (fun h => absurd (of_decide_eq_true h) (by show ¬ (7 : Int) ≤ 5; decide))]
    -- 7: the kind
    refine ownC hm Tryz.func51 (by kernel_rfl) rfl rfl (fun _ _ => wH_ok _ _ _ _ _ _ _) (fun _ _ => Nat.le_refl _) ?_
    (first | refine wX ?_ | exact wZ)
    refine callG (Len_w _ _ way j false out i) [0, 1, 2, 3] rfl ⟨rfl, rfl, rfl, rfl, trivial⟩ rfl fun _ _ => ?_
    (first | refine wX ?_ | exact wZ)
    refine brd_dec (fun h => absurd h (by omega)) (fun _ => ?_)
    (first | refine wX ?_ | exact wZ)
    refine Nd.mk ⟨hsa, by omega, by omega⟩ ?_
    (first | refine wX ?_ | exact wZ)
    refine LdN.agg [.int .i64 7, .int .i64 num, .string (bs text), .slice na names.length nc, .slice ia items.length ic] rfl (fun w hw => hw.2.2.1.1.1) rfl (fun k hk => by rw [Int.toNat_natCast]; exact grC_get l u k hk hp) ?_
    ((conv => whnf); (repeat ((first | refine BoxN.own ?_ | refine RwN.own ?_ | refine VrN.norm (wrap_i64 (by omega)) ?_ | refine VrN.keep ?_ | refine Nd.mk (by decide +kernel) ?_ | refine Nd.mk (by omega) ?_ | (refine Nd.mk ?_ ?_; focus ((repeat' (first | exact trivial | exact wkE_refl _ | refine And.intro ?_ ?_)); done)) | refine RdN.intro _ rfl (by rfl) ?_); (conv => whnf))))
    refine spec_of_exec hm Tryz.func99 (by kernel_rfl) rfl rfl ?_
    ((conv => whnf); (repeat ((first | refine BoxN.own ?_ | refine RwN.own ?_ | refine VrN.norm (wrap_i64 (by omega)) ?_ | refine VrN.keep ?_ | refine Nd.mk (by decide +kernel) ?_ | refine Nd.mk (by omega) ?_ | (refine Nd.mk ?_ ?_; focus ((repeat' (first | exact trivial | exact wkE_refl _ | refine And.intro ?_ ?_)); done)) | refine RdN.intro _ rfl (by rfl) ?_); (conv => whnf))))
    refine SpecH.args (args' := pvs [.slice (at0 j.ob) way.length j.cap, .int .i64 (u : Int)]) (by simp [pvs, opvs, opv, nth]; try rfl) ?_
    refine call1 (contains_c j.ob j.cap way u (fun h => List.eq_nil_of_length_eq_zero (hj.1 h).1) (by omega) _ (fun w hw => hw.2.1)) ?_
    ((conv => whnf); (repeat ((first | refine BoxN.own ?_ | refine RwN.own ?_ | refine VrN.norm (wrap_i64 (by omega)) ?_ | refine VrN.keep ?_ | refine Nd.mk (by decide +kernel) ?_ | refine Nd.mk (by omega) ?_ | (refine Nd.mk ?_ ?_; focus ((repeat' (first | exact trivial | exact wkE_refl _ | refine And.intro ?_ ?_)); done)) | refine RdN.intro _ rfl (by rfl) ?_); (conv => whnf))))
    try refine Nd.mk ⟨Nat.le_refl 1, rfl, rfl⟩ ?_
    (conv => whnf)
    refine AppN.grow 2 (iC way) [.int .i64 (u : Int)] rfl rfl ⟨Nat.le_refl 1, ⟨by show (way.length + 1) * 8 ≤ _; omega, by omega⟩, Nat.one_ne_zero⟩ fun wb wc hwc _ => ?_
    obtain ⟨way2, hway2⟩ : ∃ w2, w2 = way ++ [(u : Int)] := ⟨_, rfl⟩
    have hcl : iC way ++ [.int .i64 (u : Int)] = iC way2 := by rw [hway2]; simp [iC]
    have hll : way.length + 1 = way2.length := by rw [hway2]; simp
    rw [hcl, hll]
    ((conv => whnf); (repeat ((first | refine BoxN.own ?_ | refine RwN.own ?_ | refine VrN.norm (wrap_i64 (by omega)) ?_ | refine VrN.keep ?_ | refine Nd.mk (by decide +kernel) ?_ | refine Nd.mk (by omega) ?_ | (refine Nd.mk ?_ ?_; focus ((repeat' (first | exact trivial | exact wkE_refl _ | refine And.intro ?_ ?_)); done)) | refine RdN.intro _ rfl (by rfl) ?_); (conv => whnf))))
    -- [123]: what is written, i2: the place behind
    refine callG (WriteString_w _ _ way2 ⟨some wb, wc⟩ false out ([123]) i hi (by first | omega | (simp; omega))) [0, 1, 2, 3] rfl ⟨rfl, rfl, rfl, rfl, trivial⟩ rfl fun i2 hi2 => ?_
    ((conv => whnf); (repeat ((first | refine BoxN.own ?_ | refine RwN.own ?_ | refine VrN.norm (wrap_i64 (by omega)) ?_ | refine VrN.keep ?_ | refine Nd.mk (by decide +kernel) ?_ | refine Nd.mk (by omega) ?_ | (refine Nd.mk ?_ ?_; focus ((repeat' (first | exact trivial | exact wkE_refl _ | refine And.intro ?_ ?_)); done)) | refine RdN.intro _ rfl (by rfl) ?_); (conv => whnf))))
    -- [123]: front, [46, 46, 46]: mark, [125]: back
    cases hun : decide ((u : Int) ∈ way) with
    | true =>
      rw [if_pos (of_decide_eq_true hun)]
      ((conv => whnf); (repeat ((first | refine BoxN.own ?_ | refine RwN.own ?_ | refine VrN.norm (wrap_i64 (by omega)) ?_ | refine VrN.keep ?_ | refine Nd.mk (by decide +kernel) ?_ | refine Nd.mk (by omega) ?_ | (refine Nd.mk ?_ ?_; focus ((repeat' (first | exact trivial | exact wkE_refl _ | refine And.intro ?_ ?_)); done)) | refine RdN.intro _ rfl (by rfl) ?_); (conv => whnf))))
      -- out ++ ([123]): what is there, [46, 46, 46]: what is written, i2: the Builder's place, hi2: its word, i3: the place behind
      refine callG (WriteString_w _ _ way2 ⟨some wb, wc⟩ true (out ++ ([123])) ([46, 46, 46]) i2 hi2 (by first | omega | (simp; omega))) [0, 1, 2, 3] rfl ⟨rfl, rfl, rfl, rfl, trivial⟩ rfl fun i3 hi3 => ?_
      ((conv => whnf); (repeat ((first | refine BoxN.own ?_ | refine RwN.own ?_ | refine VrN.norm (wrap_i64 (by omega)) ?_ | refine VrN.keep ?_ | refine Nd.mk (by decide +kernel) ?_ | refine Nd.mk (by omega) ?_ | (refine Nd.mk ?_ ?_; focus ((repeat' (first | exact trivial | exact wkE_refl _ | refine And.intro ?_ ?_)); done)) | refine RdN.intro _ rfl (by rfl) ?_); (conv => whnf))))
      -- out ++ ([123]) ++ ([46, 46, 46]): what is there, [125]: what is written, i3: the Builder's place, hi3: its word, i4: the place behind
      refine callG (WriteString_w _ _ way2 ⟨some wb, wc⟩ true (out ++ ([123]) ++ ([46, 46, 46])) ([125]) i3 hi3 (by first | omega | (simp; omega))) [0, 1, 2, 3] rfl ⟨rfl, rfl, rfl, rfl, trivial⟩ rfl fun i4 hi4 => ?_
      ((conv => whnf); (repeat ((first | refine BoxN.own ?_ | refine RwN.own ?_ | refine VrN.norm (wrap_i64 (by omega)) ?_ | refine VrN.keep ?_ | refine Nd.mk (by decide +kernel) ?_ | refine Nd.mk (by omega) ?_ | (refine Nd.mk ?_ ?_; focus ((repeat' (first | exact trivial | exact wkE_refl _ | refine And.intro ?_ ?_)); done)) | refine RdN.intro _ rfl (by rfl) ?_); (conv => whnf))))
      -- i4: the Builder's place
      refine DrawN.plan [0, 1, 5] [(2, 1), (3, 1), (4, 1), (6, 1), (7, 1), (8, 1), (9, 1), (10, 1), (11, 1), (12, 1), (13, 1)] [(14, 0)] (by decide +kernel) ?_
      ((conv => whnf); (repeat ((first | refine BoxN.own ?_ | refine RwN.own ?_ | refine VrN.norm (wrap_i64 (by omega)) ?_ | refine VrN.keep ?_ | refine Nd.mk (by decide +kernel) ?_ | refine Nd.mk (by omega) ?_ | (refine Nd.mk ?_ ?_; focus ((repeat' (first | exact trivial | exact wkE_refl _ | refine And.intro ?_ ?_)); done)) | refine RdN.intro _ rfl (by rfl) ?_); (conv => whnf))))
      rw [show IntKind.i64.wrap ((way2.length : Int) - 1) = (way.length : Int) by rw [wrap_i64 (by omega)]; omega]
      refine ReadW.slc_hi rfl (by kernel_rfl) rfl rfl (by show (0 : Int) ≤ (way.length : Int) ∧ (way.length : Int) ≤ (wc : Int); omega) ?_
      rw [Int.toNat_natCast]
      ((conv => whnf); (repeat ((first | refine BoxN.own ?_ | refine RwN.own ?_ | refine VrN.norm (wrap_i64 (by omega)) ?_ | refine VrN.keep ?_ | refine Nd.mk (by decide +kernel) ?_ | refine Nd.mk (by omega) ?_ | (refine Nd.mk ?_ ?_; focus ((repeat' (first | exact trivial | exact wkE_refl _ | refine And.intro ?_ ?_)); done)) | refine RdN.intro _ rfl (by rfl) ?_); (conv => whnf))))
      refine ⟨(i4, ⟨some wb, wc⟩), ⟨hi4, (fun h => by cases h), by show way.length ≤ wc; omega, fun h => by have : wc = 0 := h; omega⟩, rfl, ⟨rfl, rfl, rfl, rfl, rfl, trivial⟩, wkE_refl _, .inr (.inr ⟨rfl, rfl, ?_, rfl, by omega, rfl⟩), wkE_refl _, trivial⟩
      rw [hway2, Nat.mul_one]
      simp [iC]
    | false =>
    rw [if_neg (of_decide_eq_false hun)]
    ((conv => whnf); (repeat ((first | refine BoxN.own ?_ | refine RwN.own ?_ | refine VrN.norm (wrap_i64 (by omega)) ?_ | refine VrN.keep ?_ | refine Nd.mk (by decide +kernel) ?_ | refine Nd.mk (by omega) ?_ | (refine Nd.mk ?_ ?_; focus ((repeat' (first | exact trivial | exact wkE_refl _ | refine And.intro ?_ ?_)); done)) | refine RdN.intro _ rfl (by rfl) ?_); (conv => whnf))))
    -- 7: the kind, [123]: the front
    rw [← hway2]
    have hnd2 : way2.Nodup := by
      rw [hway2]
      exact List.nodup_append.2 ⟨hw, by simp, fun x hx y hy => by
        rw [List.mem_singleton.1 hy]
        intro e
        subst e
        exact of_decide_eq_false hun hx⟩
    have hr2 : ∀ x ∈ way2, 0 ≤ x ∧ x < (l.length : Int) := fun x hx => by
      rw [hway2] at hx
      rcases List.mem_append.1 hx with hx | hx
      · exact hr x hx
      · rw [List.mem_singleton.1 hx]; omega
    obtain ⟨ff, hff⟩ : ∃ ff, ff = fun o k => writeS 20000 (leafS qt it) (l.map (·.c)) m o way2 k := ⟨_, rfl⟩
    rw [← hff]
    have hfx : ∀ o x, ff o x = writeS 20000 (leafS qt it) (l.map (·.c)) m o way2 x := fun o x => by rw [hff]
    have hpre : ∀ i, (preT (Cell.mk 7 num text names items) i).length ≤ 50 := fun i => by
      have := pre_le hsh (u : Int) i
      rw [hat] at this
      exact this
    have hfold : ∀ k, (foldT ff (preT (Cell.mk 7 num text names items)) 0 (items.take k) (out ++ ([123]))).length ≤ 130000000 := fun k => by
      have hfl : (out ++ ([123])).length ≤ out.length + 2002 := by simp; try omega
      have := foldT_len (M := 20000) (f := ff) (pre := preT (Cell.mk 7 num text names items)) (p := 50) (X := 20000 + m * 200000) hpre (by omega) (fun o k ho => by rw [hff]; exact write_same m o _ k ho) (fun o k ho => by rw [hff]; have := write_len (M := 20000) hsh m o way2 k; show (writeS _ _ _ _ _ _ _).length ≤ _; omega) (items.take k) 0 (out ++ ([123])) (22002 + m * 200000) (by omega) (by omega)
      rw [List.length_take] at this
      omega
    refine spec_of_exec hm Tryz.func122 (by kernel_rfl) rfl rfl ?_
    ((conv => whnf); (repeat ((first | refine BoxN.own ?_ | refine RwN.own ?_ | refine VrN.norm (wrap_i64 (by omega)) ?_ | refine VrN.keep ?_ | refine Nd.mk (by decide +kernel) ?_ | refine Nd.mk (by omega) ?_ | (refine Nd.mk ?_ ?_; focus ((repeat' (first | exact trivial | exact wkE_refl _ | refine And.intro ?_ ?_)); done)) | refine RdN.intro _ rfl (by rfl) ?_); (conv => whnf))))
    -- 7: the kind, [123]: the front
    refine LoopN.intro (Nat × BSt × BSt) (fun ⟨k, i, j⟩ => k ≤ items.length ∧ i.ok (foldT ff (preT (Cell.mk 7 num text names items)) 0 (items.take k) (out ++ ([123]))).length ∧ j.ok way2.length) (fun ⟨k, _, _⟩ => mkS Tryz.f122.ntmps 0 [(0, .c (.lp 0 0)), (3, .c (.lp 7 0)), (7, .c (.v (.slice ia items.length ic))), (8, .c (.v (.int .i64 (items.length : Int)))), (9, .c (.v (.int .i64 (k : Int))))])
      (fun ⟨k, i, j⟩ => wH (.slice a l.length ca) (gF a l E) true (foldT ff (preT (Cell.mk 7 num text names items)) 0 (items.take k) (out ++ ([123]))) i way2 j ++ [.dead, .dead, .dead, .blk 42 [.v (.int .i64 7), .v (.int .i64 num), .v (.string (bs text)), .v (.slice na names.length nc), .v (.slice ia items.length ic)]]) (fun ⟨k, _, _⟩ => items.length - k) [] rfl (fun ⟨_, _, _⟩ => rfl) (fun ⟨_, _, _⟩ => rfl) (fun ⟨_, _, _⟩ _ => okHB_eq rfl) ?_ ?_
    · refine ⟨(0, i2, ⟨some wb, wc⟩), ⟨Nat.zero_le _, hi2, (fun h => by cases h), by show way2.length ≤ wc; omega, fun h => by have : wc = 0 := h; omega⟩, ?_, wkE_refl _, wkE_refl _, wkE_refl _, wkE_refl _, trivial, trivial, trivial, wkE_refl _, trivial⟩
      (repeat' (first | exact trivial | refine And.intro (by with_reducible rfl) ?_ | (with_reducible exact wkC_refl _) | (with_reducible exact wkCs_refl _) | refine And.intro ?_ ?_))
      all_goals rfl
    rintro ⟨k, i3, j3⟩ ⟨hk3, hi3, hj3⟩
    ((conv => whnf); (repeat ((first | refine BoxN.own ?_ | refine RwN.own ?_ | refine VrN.norm (wrap_i64 (by omega)) ?_ | refine VrN.keep ?_ | refine Nd.mk (by decide +kernel) ?_ | refine Nd.mk (by omega) ?_ | (refine Nd.mk ?_ ?_; focus ((repeat' (first | exact trivial | exact wkE_refl _ | refine And.intro ?_ ?_)); done)) | refine RdN.intro _ rfl (by rfl) ?_); (conv => whnf))))
    refine brd_dec (fun h1 => ?_) (fun h1 => ?_)
    · obtain ⟨x, hx⟩ : ∃ x, items[k]? = some x := ⟨_, List.getElem?_eq_getElem (by omega)⟩
      have hxin := cellD_in hcd x (List.mem_of_getElem? hx)
      obtain ⟨xn, rfl⟩ : ∃ xn : Nat, x = (xn : Int) := ⟨x.toNat, by omega⟩
      have hx1 : xn < l.length := by omega
      have hsi : ia.isSome = true := by
        have := hpo.ia
        cases ia with
        | none =>
          have h0 : items = [] := this rfl
          rw [h0] at hx
          cases hx
        | some b => rfl
      ((conv => whnf); (repeat ((first | refine BoxN.own ?_ | refine RwN.own ?_ | refine VrN.norm (wrap_i64 (by omega)) ?_ | refine VrN.keep ?_ | refine Nd.mk (by decide +kernel) ?_ | refine Nd.mk (by omega) ?_ | (refine Nd.mk ?_ ?_; focus ((repeat' (first | exact trivial | exact wkE_refl _ | refine And.intro ?_ ?_)); done)) | refine RdN.intro _ rfl (by rfl) ?_); (conv => whnf))))
      refine Nd.mk ⟨hsi, by omega, by omega⟩ ?_
      ((conv => whnf); (repeat ((first | refine BoxN.own ?_ | refine RwN.own ?_ | refine VrN.norm (wrap_i64 (by omega)) ?_ | refine VrN.keep ?_ | refine Nd.mk (by decide +kernel) ?_ | refine Nd.mk (by omega) ?_ | (refine Nd.mk ?_ ?_; focus ((repeat' (first | exact trivial | exact wkE_refl _ | refine And.intro ?_ ?_)); done)) | refine RdN.intro _ rfl (by rfl) ?_); (conv => whnf))))
      refine LdN.one (.int .i64 (xn : Int)) rfl (fun w hw => (hw.2.2.1.1.2 _ hpm).2) (by rw [Int.toNat_natCast]; show (iC items)[k * 1]? = _; rw [Nat.mul_one]; exact iC_get hx) ?_
      ((conv => whnf); (repeat ((first | refine BoxN.own ?_ | refine RwN.own ?_ | refine VrN.norm (wrap_i64 (by omega)) ?_ | refine VrN.keep ?_ | refine Nd.mk (by decide +kernel) ?_ | refine Nd.mk (by omega) ?_ | (refine Nd.mk ?_ ?_; focus ((repeat' (first | exact trivial | exact wkE_refl _ | refine And.intro ?_ ?_)); done)) | refine RdN.intro _ rfl (by rfl) ?_); (conv => whnf))))
      refine brd_eq (fun hk1 => ?_) (fun hk1 => ?_)
      · rw [Int.tmod_eq_emod_of_nonneg (by omega)] at hk1
        ((conv => whnf); (repeat ((first | refine BoxN.own ?_ | refine RwN.own ?_ | refine VrN.norm (wrap_i64 (by omega)) ?_ | refine VrN.keep ?_ | refine Nd.mk (by decide +kernel) ?_ | refine Nd.mk (by omega) ?_ | (refine Nd.mk ?_ ?_; focus ((repeat' (first | exact trivial | exact wkE_refl _ | refine And.intro ?_ ?_)); done)) | refine RdN.intro _ rfl (by rfl) ?_); (conv => whnf))))
        -- 7: the kind, [123]: the front, [32, 61, 62, 32]: what stands ahead, by rw [preT_7 rfl, if_pos (by omega)]: why
        refine callG (WriteString_w _ _ way2 j3 true (foldT ff (preT (Cell.mk 7 num text names items)) 0 (items.take k) (out ++ ([123]))) ([32, 61, 62, 32]) i3 hi3 (by have := hfold k; simp only [List.length_cons, List.length_nil]; omega)) [0, 1, 2, 3] rfl ⟨rfl, rfl, rfl, rfl, trivial⟩ rfl fun i6 hi6 => ?_
        ((conv => whnf); (repeat ((first | refine BoxN.own ?_ | refine RwN.own ?_ | refine VrN.norm (wrap_i64 (by omega)) ?_ | refine VrN.keep ?_ | refine Nd.mk (by decide +kernel) ?_ | refine Nd.mk (by omega) ?_ | (refine Nd.mk ?_ ?_; focus ((repeat' (first | exact trivial | exact wkE_refl _ | refine And.intro ?_ ?_)); done)) | refine RdN.intro _ rfl (by rfl) ?_); (conv => whnf))))
        -- an item is written, and the round is over; [32, 61, 62, 32]: what stands ahead of it, i6: the Builder's place, by rw [preT_7 rfl, if_pos (by omega)]: the proof that it stands ahead
        refine callG (ih (by omega) (foldT ff (preT (Cell.mk 7 num text names items)) 0 (items.take k) (out ++ ([123])) ++ ([32, 61, 62, 32])) way2 i6 j3 xn (hi6) hj3 hx1 hnd2 hr2 (by omega) (by have := hfold k; simp only [List.length_append, List.length_cons, List.length_nil]; omega)) [0, 1, 2, 3] rfl ⟨rfl, rfl, rfl, rfl, trivial⟩ rfl fun st hst => ?_
        obtain ⟨i5, j5⟩ := st
        obtain ⟨hi5, hj5⟩ := hst
        simp only at hi5 hj5
        ((conv => whnf); (repeat ((first | refine BoxN.own ?_ | refine RwN.own ?_ | refine VrN.norm (wrap_i64 (by omega)) ?_ | refine VrN.keep ?_ | refine Nd.mk (by decide +kernel) ?_ | refine Nd.mk (by omega) ?_ | (refine Nd.mk ?_ ?_; focus ((repeat' (first | exact trivial | exact wkE_refl _ | refine And.intro ?_ ?_)); done)) | refine RdN.intro _ rfl (by rfl) ?_); (conv => whnf))))
        have hfs := foldT_take (f := ff) (pre := preT (Cell.mk 7 num text names items)) hx (out ++ ([123]))
        rw [show preT (Cell.mk 7 num text names items) k = [32, 61, 62, 32] from by rw [preT_7 rfl, if_pos (by omega)], hfx] at hfs
        refine ⟨(k + 1, i5, j5), ⟨by omega, by rw [hfs]; exact hi5, hj5⟩, by show items.length - (k + 1) < items.length - k; omega, ?_, ?_⟩
        · (repeat' (first | exact trivial | refine And.intro (by with_reducible rfl) ?_ | (with_reducible exact wkC_refl _) | (with_reducible exact wkCs_refl _) | refine And.intro ?_ ?_))
          all_goals first | rfl | exact av_int (by rw [wrap_i64 (by omega)]; omega) | exact av_int (by omega)
        · show wkH _ (wH _ _ true (foldT ff _ 0 (items.take (k + 1)) _) _ _ _ ++ _)
          rw [hfs]
          exact ⟨wkE_refl _, wkE_refl _, wkE_refl _, wkE_refl _, trivial, trivial, trivial, wkE_refl _, trivial⟩
      rw [Int.tmod_eq_emod_of_nonneg (by omega)] at hk1
      ((conv => whnf); (repeat ((first | refine BoxN.own ?_ | refine RwN.own ?_ | refine VrN.norm (wrap_i64 (by omega)) ?_ | refine VrN.keep ?_ | refine Nd.mk (by decide +kernel) ?_ | refine Nd.mk (by omega) ?_ | (refine Nd.mk ?_ ?_; focus ((repeat' (first | exact trivial | exact wkE_refl _ | refine And.intro ?_ ?_)); done)) | refine RdN.intro _ rfl (by rfl) ?_); (conv => whnf))))
      refine brd_dec (fun hk0 => ?_) (fun hk0 => ?_)
      · ((conv => whnf); (repeat ((first | refine BoxN.own ?_ | refine RwN.own ?_ | refine VrN.norm (wrap_i64 (by omega)) ?_ | refine VrN.keep ?_ | refine Nd.mk (by decide +kernel) ?_ | refine Nd.mk (by omega) ?_ | (refine Nd.mk ?_ ?_; focus ((repeat' (first | exact trivial | exact wkE_refl _ | refine And.intro ?_ ?_)); done)) | refine RdN.intro _ rfl (by rfl) ?_); (conv => whnf))))
        -- 7: the kind, [123]: the front, [44, 32]: what stands ahead, by rw [preT_7 rfl, if_neg (by omega), if_pos (by omega)]: why
        refine callG (WriteString_w _ _ way2 j3 true (foldT ff (preT (Cell.mk 7 num text names items)) 0 (items.take k) (out ++ ([123]))) ([44, 32]) i3 hi3 (by have := hfold k; simp only [List.length_cons, List.length_nil]; omega)) [0, 1, 2, 3] rfl ⟨rfl, rfl, rfl, rfl, trivial⟩ rfl fun i6 hi6 => ?_
        ((conv => whnf); (repeat ((first | refine BoxN.own ?_ | refine RwN.own ?_ | refine VrN.norm (wrap_i64 (by omega)) ?_ | refine VrN.keep ?_ | refine Nd.mk (by decide +kernel) ?_ | refine Nd.mk (by omega) ?_ | (refine Nd.mk ?_ ?_; focus ((repeat' (first | exact trivial | exact wkE_refl _ | refine And.intro ?_ ?_)); done)) | refine RdN.intro _ rfl (by rfl) ?_); (conv => whnf))))
        -- an item is written, and the round is over; [44, 32]: what stands ahead of it, i6: the Builder's place, by rw [preT_7 rfl, if_neg (by omega), if_pos (by omega)]: the proof that it stands ahead
        refine callG (ih (by omega) (foldT ff (preT (Cell.mk 7 num text names items)) 0 (items.take k) (out ++ ([123])) ++ ([44, 32])) way2 i6 j3 xn (hi6) hj3 hx1 hnd2 hr2 (by omega) (by have := hfold k; simp only [List.length_append, List.length_cons, List.length_nil]; omega)) [0, 1, 2, 3] rfl ⟨rfl, rfl, rfl, rfl, trivial⟩ rfl fun st hst => ?_
        obtain ⟨i5, j5⟩ := st
        obtain ⟨hi5, hj5⟩ := hst
        simp only at hi5 hj5
        ((conv => whnf); (repeat ((first | refine BoxN.own ?_ | refine RwN.own ?_ | refine VrN.norm (wrap_i64 (by omega)) ?_ | refine VrN.keep ?_ | refine Nd.mk (by decide +kernel) ?_ | refine Nd.mk (by omega) ?_ | (refine Nd.mk ?_ ?_; focus ((repeat' (first | exact trivial | exact wkE_refl _ | refine And.intro ?_ ?_)); done)) | refine RdN.intro _ rfl (by rfl) ?_); (conv => whnf))))
        have hfs := foldT_take (f := ff) (pre := preT (Cell.mk 7 num text names items)) hx (out ++ ([123]))
        rw [show preT (Cell.mk 7 num text names items) k = [44, 32] from by rw [preT_7 rfl, if_neg (by omega), if_pos (by omega)], hfx] at hfs
        refine ⟨(k + 1, i5, j5), ⟨by omega, by rw [hfs]; exact hi5, hj5⟩, by show items.length - (k + 1) < items.length - k; omega, ?_, ?_⟩
        · (repeat' (first | exact trivial | refine And.intro (by with_reducible rfl) ?_ | (with_reducible exact wkC_refl _) | (with_reducible exact wkCs_refl _) | refine And.intro ?_ ?_))
          all_goals first | rfl | exact av_int (by rw [wrap_i64 (by omega)]; omega) | exact av_int (by omega)
        · show wkH _ (wH _ _ true (foldT ff _ 0 (items.take (k + 1)) _) _ _ _ ++ _)
          rw [hfs]
          exact ⟨wkE_refl _, wkE_refl _, wkE_refl _, wkE_refl _, trivial, trivial, trivial, wkE_refl _, trivial⟩
      · ((conv => whnf); (repeat ((first | refine BoxN.own ?_ | refine RwN.own ?_ | refine VrN.norm (wrap_i64 (by omega)) ?_ | refine VrN.keep ?_ | refine Nd.mk (by decide +kernel) ?_ | refine Nd.mk (by omega) ?_ | (refine Nd.mk ?_ ?_; focus ((repeat' (first | exact trivial | exact wkE_refl _ | refine And.intro ?_ ?_)); done)) | refine RdN.intro _ rfl (by rfl) ?_); (conv => whnf))))
        -- 7: the kind, [123]: the front, by rw [preT_7 rfl, if_neg (by omega), if_neg (by omega)]: why
        rw [show foldT ff (preT (Cell.mk 7 num text names items)) 0 (items.take k) (out ++ ([123])) = foldT ff (preT (Cell.mk 7 num text names items)) 0 (items.take k) (out ++ ([123])) ++ [] from (List.append_nil _).symm]
        -- an item is written, and the round is over; []: what stands ahead of it, i3: the Builder's place, by rw [preT_7 rfl, if_neg (by omega), if_neg (by omega)]: the proof that it stands ahead
        refine callG (ih (by omega) (foldT ff (preT (Cell.mk 7 num text names items)) 0 (items.take k) (out ++ ([123])) ++ ([])) way2 i3 j3 xn (by rw [List.append_nil]; exact hi3) hj3 hx1 hnd2 hr2 (by omega) (by have := hfold k; simp only [List.length_append, List.length_cons, List.length_nil]; omega)) [0, 1, 2, 3] rfl ⟨rfl, rfl, rfl, rfl, trivial⟩ rfl fun st hst => ?_
        obtain ⟨i5, j5⟩ := st
        obtain ⟨hi5, hj5⟩ := hst
        simp only at hi5 hj5
        ((conv => whnf); (repeat ((first | refine BoxN.own ?_ | refine RwN.own ?_ | refine VrN.norm (wrap_i64 (by omega)) ?_ | refine VrN.keep ?_ | refine Nd.mk (by decide +kernel) ?_ | refine Nd.mk (by omega) ?_ | (refine Nd.mk ?_ ?_; focus ((repeat' (first | exact trivial | exact wkE_refl _ | refine And.intro ?_ ?_)); done)) | refine RdN.intro _ rfl (by rfl) ?_); (conv => whnf))))
        have hfs := foldT_take (f := ff) (pre := preT (Cell.mk 7 num text names items)) hx (out ++ ([123]))
        rw [show preT (Cell.mk 7 num text names items) k = [] from by rw [preT_7 rfl, if_neg (by omega), if_neg (by omega)], hfx] at hfs
        refine ⟨(k + 1, i5, j5), ⟨by omega, by rw [hfs]; exact hi5, hj5⟩, by show items.length - (k + 1) < items.length - k; omega, ?_, ?_⟩
        · (repeat' (first | exact trivial | refine And.intro (by with_reducible rfl) ?_ | (with_reducible exact wkC_refl _) | (with_reducible exact wkCs_refl _) | refine And.intro ?_ ?_))
          all_goals first | rfl | exact av_int (by rw [wrap_i64 (by omega)]; omega) | exact av_int (by omega)
        · show wkH _ (wH _ _ true (foldT ff _ 0 (items.take (k + 1)) _) _ _ _ ++ _)
          rw [hfs]
          exact ⟨wkE_refl _, wkE_refl _, wkE_refl _, wkE_refl _, trivial, trivial, trivial, wkE_refl _, trivial⟩
    · have hin : k = items.length := by omega
      subst hin
      rw [List.take_length] at hi3 ⊢
      have hfe := hfold items.length
      rw [List.take_length] at hfe
      obtain ⟨wb, wc⟩ := j3
      cases wb with
      | none =>
        have := (hj3.1 rfl).1
        omega
      | some wb =>
      have hwc3 : way2.length ≤ wc := hj3.2.1
      ((conv => whnf); (repeat ((first | refine BoxN.own ?_ | refine RwN.own ?_ | refine VrN.norm (wrap_i64 (by omega)) ?_ | refine VrN.keep ?_ | refine Nd.mk (by decide +kernel) ?_ | refine Nd.mk (by omega) ?_ | (refine Nd.mk ?_ ?_; focus ((repeat' (first | exact trivial | exact wkE_refl _ | refine And.intro ?_ ?_)); done)) | refine RdN.intro _ rfl (by rfl) ?_); (conv => whnf))))
      refine callG (WriteString_w _ _ way2 ⟨some wb, wc⟩ true (foldT ff (preT (Cell.mk 7 num text names items)) 0 items (out ++ ([123]))) ([125]) i3 hi3 (by simp only [List.length_cons, List.length_nil]; omega)) [0, 1, 2, 3] rfl ⟨rfl, rfl, rfl, rfl, trivial⟩ rfl fun i7 hi7 => ?_
      ((conv => whnf); (repeat ((first | refine BoxN.own ?_ | refine RwN.own ?_ | refine VrN.norm (wrap_i64 (by omega)) ?_ | refine VrN.keep ?_ | refine Nd.mk (by decide +kernel) ?_ | refine Nd.mk (by omega) ?_ | (refine Nd.mk ?_ ?_; focus ((repeat' (first | exact trivial | exact wkE_refl _ | refine And.intro ?_ ?_)); done)) | refine RdN.intro _ rfl (by rfl) ?_); (conv => whnf))))
      -- i7: the Builder's place
      refine DrawN.plan [0, 1, 5] [(2, 1), (3, 1), (4, 1), (6, 1), (7, 1), (8, 1), (9, 1), (10, 1), (11, 1), (12, 1), (13, 1)] [(14, 0)] (by decide +kernel) ?_
      ((conv => whnf); (repeat ((first | refine BoxN.own ?_ | refine RwN.own ?_ | refine VrN.norm (wrap_i64 (by omega)) ?_ | refine VrN.keep ?_ | refine Nd.mk (by decide +kernel) ?_ | refine Nd.mk (by omega) ?_ | (refine Nd.mk ?_ ?_; focus ((repeat' (first | exact trivial | exact wkE_refl _ | refine And.intro ?_ ?_)); done)) | refine RdN.intro _ rfl (by rfl) ?_); (conv => whnf))))
      rw [show IntKind.i64.wrap ((way2.length : Int) - 1) = (way.length : Int) by rw [wrap_i64 (by omega)]; omega]
      refine ReadW.slc_hi rfl (by kernel_rfl) rfl rfl (by show (0 : Int) ≤ (way.length : Int) ∧ (way.length : Int) ≤ (wc : Int); omega) ?_
      rw [Int.toNat_natCast]
      ((conv => whnf); (repeat ((first | refine BoxN.own ?_ | refine RwN.own ?_ | refine VrN.norm (wrap_i64 (by omega)) ?_ | refine VrN.keep ?_ | refine Nd.mk (by decide +kernel) ?_ | refine Nd.mk (by omega) ?_ | (refine Nd.mk ?_ ?_; focus ((repeat' (first | exact trivial | exact wkE_refl _ | refine And.intro ?_ ?_)); done)) | refine RdN.intro _ rfl (by rfl) ?_); (conv => whnf))))
      refine ⟨(i7, ⟨some wb, wc⟩), ⟨hi7, (fun h => by cases h), by show way.length ≤ wc; omega, fun h => by have : wc = 0 := h; omega⟩, rfl, ⟨rfl, rfl, rfl, rfl, rfl, trivial⟩, wkE_refl _, .inr (.inr ⟨rfl, rfl, ?_, rfl, by omega, rfl⟩), wkE_refl _, trivial⟩
      rw [hway2, Nat.mul_one]
      simp [iC]
  · rw [writeS_in hM hat (fun h => absurd (of_decide_eq_true h) (by show ¬ (8 : Int) ≤ 5; decide))]
    -- 8: the kind
    refine ownC hm Tryz.func51 (by kernel_rfl) rfl rfl (fun _ _ => wH_ok _ _ _ _ _ _ _) (fun _ _ => Nat.le_refl _) ?_
    (first | refine wX ?_ | exact wZ)
    refine callG (Len_w _ _ way j false out i) [0, 1, 2, 3] rfl ⟨rfl, rfl, rfl, rfl, trivial⟩ rfl fun _ _ => ?_
    (first | refine wX ?_ | exact wZ)
    refine brd_dec (fun h => absurd h (by omega)) (fun _ => ?_)
    (first | refine wX ?_ | exact wZ)
    refine Nd.mk ⟨hsa, by omega, by omega⟩ ?_
    (first | refine wX ?_ | exact wZ)
    refine LdN.agg [.int .i64 8, .int .i64 num, .string (bs text), .slice na names.length nc, .slice ia items.length ic] rfl (fun w hw => hw.2.2.1.1.1) rfl (fun k hk => by rw [Int.toNat_natCast]; exact grC_get l u k hk hp) ?_
    ((conv => whnf); (repeat ((first | refine BoxN.own ?_ | refine RwN.own ?_ | refine VrN.norm (wrap_i64 (by omega)) ?_ | refine VrN.keep ?_ | refine Nd.mk (by decide +kernel) ?_ | refine Nd.mk (by omega) ?_ | (refine Nd.mk ?_ ?_; focus ((repeat' (first | exact trivial | exact wkE_refl _ | refine And.intro ?_ ?_)); done)) | refine RdN.intro _ rfl (by rfl) ?_); (conv => whnf))))
    refine spec_of_exec hm Tryz.func99 (by kernel_rfl) rfl rfl ?_
    ((conv => whnf); (repeat ((first | refine LdN.one (a := some ⟨cb, 0, none⟩) (q := 0) (xs := [_, _, _, _, _]) _ rfl (fun w hw => hw.2.2.2.1) rfl ?_ | refine LdN.one (a := some ⟨cb, 0, none⟩) (q := 1) (xs := [_, _, _, _, _]) _ rfl (fun w hw => hw.2.2.2.1) rfl ?_ | refine LdN.one (a := some ⟨cb, 0, none⟩) (q := 2) (xs := [_, _, _, _, _]) _ rfl (fun w hw => hw.2.2.2.1) rfl ?_ | refine LdN.one (a := some ⟨cb, 0, none⟩) (q := 3) (xs := [_, _, _, _, _]) _ rfl (fun w hw => hw.2.2.2.1) rfl ?_ | refine LdN.one (a := some ⟨cb, 0, none⟩) (q := 4) (xs := [_, _, _, _, _]) _ rfl (fun w hw => hw.2.2.2.1) rfl ?_ | refine RwN.own ?_ | refine VrN.norm (wrap_i64 (by omega)) ?_ | refine VrN.keep ?_ | refine Nd.mk (by decide +kernel) ?_ | refine Nd.mk (by omega) ?_ | (refine Nd.mk ?_ ?_; focus ((repeat' (first | exact trivial | exact wkE_refl _ | refine And.intro ?_ ?_)); done)) | refine RdN.intro _ rfl (by rfl) ?_); (conv => whnf))))
    refine BoxN.known [.int .i64 8, .int .i64 num, .string (bs text), .slice na names.length nc, .slice ia items.length ic] rfl fun cb => ?_
    ((conv => whnf); (repeat ((first | refine LdN.one (a := some ⟨cb, 0, none⟩) (q := 0) (xs := [_, _, _, _, _]) _ rfl (fun w hw => hw.2.2.2.1) rfl ?_ | refine LdN.one (a := some ⟨cb, 0, none⟩) (q := 1) (xs := [_, _, _, _, _]) _ rfl (fun w hw => hw.2.2.2.1) rfl ?_ | refine LdN.one (a := some ⟨cb, 0, none⟩) (q := 2) (xs := [_, _, _, _, _]) _ rfl (fun w hw => hw.2.2.2.1) rfl ?_ | refine LdN.one (a := some ⟨cb, 0, none⟩) (q := 3) (xs := [_, _, _, _, _]) _ rfl (fun w hw => hw.2.2.2.1) rfl ?_ | refine LdN.one (a := some ⟨cb, 0, none⟩) (q := 4) (xs := [_, _, _, _, _]) _ rfl (fun w hw => hw.2.2.2.1) rfl ?_ | refine RwN.own ?_ | refine VrN.norm (wrap_i64 (by omega)) ?_ | refine VrN.keep ?_ | refine Nd.mk (by decide +kernel) ?_ | refine Nd.mk (by omega) ?_ | (refine Nd.mk ?_ ?_; focus ((repeat' (first | exact trivial | exact wkE_refl _ | refine And.intro ?_ ?_)); done)) | refine RdN.intro _ rfl (by rfl) ?_); (conv => whnf))))
    refine SpecH.args (args' := pvs [.slice (at0 j.ob) way.length j.cap, .int .i64 (u : Int)]) (by simp [pvs, opvs, opv, nth]; try rfl) ?_
    refine call1 (contains_c j.ob j.cap way u (fun h => List.eq_nil_of_length_eq_zero (hj.1 h).1) (by omega) _ (fun w hw => hw.2.1)) ?_
    ((conv => whnf); (repeat ((first | refine LdN.one (a := some ⟨cb, 0, none⟩) (q := 0) (xs := [_, _, _, _, _]) _ rfl (fun w hw => hw.2.2.2.1) rfl ?_ | refine LdN.one (a := some ⟨cb, 0, none⟩) (q := 1) (xs := [_, _, _, _, _]) _ rfl (fun w hw => hw.2.2.2.1) rfl ?_ | refine LdN.one (a := some ⟨cb, 0, none⟩) (q := 2) (xs := [_, _, _, _, _]) _ rfl (fun w hw => hw.2.2.2.1) rfl ?_ | refine LdN.one (a := some ⟨cb, 0, none⟩) (q := 3) (xs := [_, _, _, _, _]) _ rfl (fun w hw => hw.2.2.2.1) rfl ?_ | refine LdN.one (a := some ⟨cb, 0, none⟩) (q := 4) (xs := [_, _, _, _, _]) _ rfl (fun w hw => hw.2.2.2.1) rfl ?_ | refine RwN.own ?_ | refine VrN.norm (wrap_i64 (by omega)) ?_ | refine VrN.keep ?_ | refine Nd.mk (by decide +kernel) ?_ | refine Nd.mk (by omega) ?_ | (refine Nd.mk ?_ ?_; focus ((repeat' (first | exact trivial | exact wkE_refl _ | refine And.intro ?_ ?_)); done)) | refine RdN.intro _ rfl (by rfl) ?_); (conv => whnf))))
    try refine Nd.mk ⟨Nat.le_refl 1, rfl, rfl⟩ ?_
    (conv => whnf)
    refine AppN.grow 2 (iC way) [.int .i64 (u : Int)] rfl rfl ⟨Nat.le_refl 1, ⟨by show (way.length + 1) * 8 ≤ _; omega, by omega⟩, Nat.one_ne_zero⟩ fun wb wc hwc _ => ?_
    obtain ⟨way2, hway2⟩ : ∃ w2, w2 = way ++ [(u : Int)] := ⟨_, rfl⟩
    have hcl : iC way ++ [.int .i64 (u : Int)] = iC way2 := by rw [hway2]; simp [iC]
    have hll : way.length + 1 = way2.length := by rw [hway2]; simp
    rw [hcl, hll]
    ((conv => whnf); (repeat ((first | refine LdN.one (a := some ⟨cb, 0, none⟩) (q := 0) (xs := [_, _, _, _, _]) _ rfl (fun w hw => hw.2.2.2.1) rfl ?_ | refine LdN.one (a := some ⟨cb, 0, none⟩) (q := 1) (xs := [_, _, _, _, _]) _ rfl (fun w hw => hw.2.2.2.1) rfl ?_ | refine LdN.one (a := some ⟨cb, 0, none⟩) (q := 2) (xs := [_, _, _, _, _]) _ rfl (fun w hw => hw.2.2.2.1) rfl ?_ | refine LdN.one (a := some ⟨cb, 0, none⟩) (q := 3) (xs := [_, _, _, _, _]) _ rfl (fun w hw => hw.2.2.2.1) rfl ?_ | refine LdN.one (a := some ⟨cb, 0, none⟩) (q := 4) (xs := [_, _, _, _, _]) _ rfl (fun w hw => hw.2.2.2.1) rfl ?_ | refine RwN.own ?_ | refine VrN.norm (wrap_i64 (by omega)) ?_ | refine VrN.keep ?_ | refine Nd.mk (by decide +kernel) ?_ | refine Nd.mk (by omega) ?_ | (refine Nd.mk ?_ ?_; focus ((repeat' (first | exact trivial | exact wkE_refl _ | refine And.intro ?_ ?_)); done)) | refine RdN.intro _ rfl (by rfl) ?_); (conv => whnf))))
    refine Nd.mk (by show 2 + (bs text).size < _; rw [bs_size]; omega) ?_
    rw [show (({ data := #[35, 60] } : ByteArray) ++ bs text) = bs ([35, 60] ++ text) by rw [← bs_app]; rfl]
    ((conv => whnf); (repeat ((first | refine LdN.one (a := some ⟨cb, 0, none⟩) (q := 0) (xs := [_, _, _, _, _]) _ rfl (fun w hw => hw.2.2.2.1) rfl ?_ | refine LdN.one (a := some ⟨cb, 0, none⟩) (q := 1) (xs := [_, _, _, _, _]) _ rfl (fun w hw => hw.2.2.2.1) rfl ?_ | refine LdN.one (a := some ⟨cb, 0, none⟩) (q := 2) (xs := [_, _, _, _, _]) _ rfl (fun w hw => hw.2.2.2.1) rfl ?_ | refine LdN.one (a := some ⟨cb, 0, none⟩) (q := 3) (xs := [_, _, _, _, _]) _ rfl (fun w hw => hw.2.2.2.1) rfl ?_ | refine LdN.one (a := some ⟨cb, 0, none⟩) (q := 4) (xs := [_, _, _, _, _]) _ rfl (fun w hw => hw.2.2.2.1) rfl ?_ | refine RwN.own ?_ | refine VrN.norm (wrap_i64 (by omega)) ?_ | refine VrN.keep ?_ | refine Nd.mk (by decide +kernel) ?_ | refine Nd.mk (by omega) ?_ | (refine Nd.mk ?_ ?_; focus ((repeat' (first | exact trivial | exact wkE_refl _ | refine And.intro ?_ ?_)); done)) | refine RdN.intro _ rfl (by rfl) ?_); (conv => whnf))))
    -- [35, 60] ++ text: what is written, i2: the place behind
    refine callG (WriteString_w _ _ way2 ⟨some wb, wc⟩ false out ([35, 60] ++ text) i hi (by first | omega | (simp; omega))) [0, 1, 2, 3] rfl ⟨rfl, rfl, rfl, rfl, trivial⟩ rfl fun i2 hi2 => ?_
    ((conv => whnf); (repeat ((first | refine LdN.one (a := some ⟨cb, 0, none⟩) (q := 0) (xs := [_, _, _, _, _]) _ rfl (fun w hw => hw.2.2.2.1) rfl ?_ | refine LdN.one (a := some ⟨cb, 0, none⟩) (q := 1) (xs := [_, _, _, _, _]) _ rfl (fun w hw => hw.2.2.2.1) rfl ?_ | refine LdN.one (a := some ⟨cb, 0, none⟩) (q := 2) (xs := [_, _, _, _, _]) _ rfl (fun w hw => hw.2.2.2.1) rfl ?_ | refine LdN.one (a := some ⟨cb, 0, none⟩) (q := 3) (xs := [_, _, _, _, _]) _ rfl (fun w hw => hw.2.2.2.1) rfl ?_ | refine LdN.one (a := some ⟨cb, 0, none⟩) (q := 4) (xs := [_, _, _, _, _]) _ rfl (fun w hw => hw.2.2.2.1) rfl ?_ | refine RwN.own ?_ | refine VrN.norm (wrap_i64 (by omega)) ?_ | refine VrN.keep ?_ | refine Nd.mk (by decide +kernel) ?_ | refine Nd.mk (by omega) ?_ | (refine Nd.mk ?_ ?_; focus ((repeat' (first | exact trivial | exact wkE_refl _ | refine And.intro ?_ ?_)); done)) | refine RdN.intro _ rfl (by rfl) ?_); (conv => whnf))))
    cases hun : decide ((u : Int) ∈ way) with
    | true =>
      rw [if_pos (of_decide_eq_true hun)]
      ((conv => whnf); (repeat ((first | refine LdN.one (a := some ⟨cb, 0, none⟩) (q := 0) (xs := [_, _, _, _, _]) _ rfl (fun w hw => hw.2.2.2.1) rfl ?_ | refine LdN.one (a := some ⟨cb, 0, none⟩) (q := 1) (xs := [_, _, _, _, _]) _ rfl (fun w hw => hw.2.2.2.1) rfl ?_ | refine LdN.one (a := some ⟨cb, 0, none⟩) (q := 2) (xs := [_, _, _, _, _]) _ rfl (fun w hw => hw.2.2.2.1) rfl ?_ | refine LdN.one (a := some ⟨cb, 0, none⟩) (q := 3) (xs := [_, _, _, _, _]) _ rfl (fun w hw => hw.2.2.2.1) rfl ?_ | refine LdN.one (a := some ⟨cb, 0, none⟩) (q := 4) (xs := [_, _, _, _, _]) _ rfl (fun w hw => hw.2.2.2.1) rfl ?_ | refine RwN.own ?_ | refine VrN.norm (wrap_i64 (by omega)) ?_ | refine VrN.keep ?_ | refine Nd.mk (by decide +kernel) ?_ | refine Nd.mk (by omega) ?_ | (refine Nd.mk ?_ ?_; focus ((repeat' (first | exact trivial | exact wkE_refl _ | refine And.intro ?_ ?_)); done)) | refine RdN.intro _ rfl (by rfl) ?_); (conv => whnf))))
      -- out ++ ([35, 60] ++ text): what is there, [32, 46, 46, 46]: what is written, i2: the Builder's place, hi2: its word, i3: the place behind
      refine callG (WriteString_w _ _ way2 ⟨some wb, wc⟩ true (out ++ ([35, 60] ++ text)) ([32, 46, 46, 46]) i2 hi2 (by first | omega | (simp; omega))) [0, 1, 2, 3] rfl ⟨rfl, rfl, rfl, rfl, trivial⟩ rfl fun i3 hi3 => ?_
      ((conv => whnf); (repeat ((first | refine LdN.one (a := some ⟨cb, 0, none⟩) (q := 0) (xs := [_, _, _, _, _]) _ rfl (fun w hw => hw.2.2.2.1) rfl ?_ | refine LdN.one (a := some ⟨cb, 0, none⟩) (q := 1) (xs := [_, _, _, _, _]) _ rfl (fun w hw => hw.2.2.2.1) rfl ?_ | refine LdN.one (a := some ⟨cb, 0, none⟩) (q := 2) (xs := [_, _, _, _, _]) _ rfl (fun w hw => hw.2.2.2.1) rfl ?_ | refine LdN.one (a := some ⟨cb, 0, none⟩) (q := 3) (xs := [_, _, _, _, _]) _ rfl (fun w hw => hw.2.2.2.1) rfl ?_ | refine LdN.one (a := some ⟨cb, 0, none⟩) (q := 4) (xs := [_, _, _, _, _]) _ rfl (fun w hw => hw.2.2.2.1) rfl ?_ | refine RwN.own ?_ | refine VrN.norm (wrap_i64 (by omega)) ?_ | refine VrN.keep ?_ | refine Nd.mk (by decide +kernel) ?_ | refine Nd.mk (by omega) ?_ | (refine Nd.mk ?_ ?_; focus ((repeat' (first | exact trivial | exact wkE_refl _ | refine And.intro ?_ ?_)); done)) | refine RdN.intro _ rfl (by rfl) ?_); (conv => whnf))))
      -- out ++ ([35, 60] ++ text) ++ [32, 46, 46, 46]: what is there, [62]: what is written, i3: the Builder's place, hi3: its word, i4: the place behind
      refine callG (WriteString_w _ _ way2 ⟨some wb, wc⟩ true (out ++ ([35, 60] ++ text) ++ [32, 46, 46, 46]) ([62]) i3 hi3 (by first | omega | (simp; omega))) [0, 1, 2, 3] rfl ⟨rfl, rfl, rfl, rfl, trivial⟩ rfl fun i4 hi4 => ?_
      ((conv => whnf); (repeat ((first | refine LdN.one (a := some ⟨cb, 0, none⟩) (q := 0) (xs := [_, _, _, _, _]) _ rfl (fun w hw => hw.2.2.2.1) rfl ?_ | refine LdN.one (a := some ⟨cb, 0, none⟩) (q := 1) (xs := [_, _, _, _, _]) _ rfl (fun w hw => hw.2.2.2.1) rfl ?_ | refine LdN.one (a := some ⟨cb, 0, none⟩) (q := 2) (xs := [_, _, _, _, _]) _ rfl (fun w hw => hw.2.2.2.1) rfl ?_ | refine LdN.one (a := some ⟨cb, 0, none⟩) (q := 3) (xs := [_, _, _, _, _]) _ rfl (fun w hw => hw.2.2.2.1) rfl ?_ | refine LdN.one (a := some ⟨cb, 0, none⟩) (q := 4) (xs := [_, _, _, _, _]) _ rfl (fun w hw => hw.2.2.2.1) rfl ?_ | refine RwN.own ?_ | refine VrN.norm (wrap_i64 (by omega)) ?_ | refine VrN.keep ?_ | refine Nd.mk (by decide +kernel) ?_ | refine Nd.mk (by omega) ?_ | (refine Nd.mk ?_ ?_; focus ((repeat' (first | exact trivial | exact wkE_refl _ | refine And.intro ?_ ?_)); done)) | refine RdN.intro _ rfl (by rfl) ?_); (conv => whnf))))
      -- i4: the Builder's place
      refine DrawN.plan [0, 1, 5] [(2, 1), (3, 1), (4, 1), (6, 1), (7, 1), (8, 1), (9, 1), (10, 1), (11, 1), (12, 1), (13, 1)] [(14, 0)] (by decide +kernel) ?_
      ((conv => whnf); (repeat ((first | refine BoxN.own ?_ | refine RwN.own ?_ | refine VrN.norm (wrap_i64 (by omega)) ?_ | refine VrN.keep ?_ | refine Nd.mk (by decide +kernel) ?_ | refine Nd.mk (by omega) ?_ | (refine Nd.mk ?_ ?_; focus ((repeat' (first | exact trivial | exact wkE_refl _ | refine And.intro ?_ ?_)); done)) | refine RdN.intro _ rfl (by rfl) ?_); (conv => whnf))))
      rw [show IntKind.i64.wrap ((way2.length : Int) - 1) = (way.length : Int) by rw [wrap_i64 (by omega)]; omega]
      refine ReadW.slc_hi rfl (by kernel_rfl) rfl rfl (by show (0 : Int) ≤ (way.length : Int) ∧ (way.length : Int) ≤ (wc : Int); omega) ?_
      rw [Int.toNat_natCast]
      ((conv => whnf); (repeat ((first | refine BoxN.own ?_ | refine RwN.own ?_ | refine VrN.norm (wrap_i64 (by omega)) ?_ | refine VrN.keep ?_ | refine Nd.mk (by decide +kernel) ?_ | refine Nd.mk (by omega) ?_ | (refine Nd.mk ?_ ?_; focus ((repeat' (first | exact trivial | exact wkE_refl _ | refine And.intro ?_ ?_)); done)) | refine RdN.intro _ rfl (by rfl) ?_); (conv => whnf))))
      refine ⟨(i4, ⟨some wb, wc⟩), ⟨hi4, (fun h => by cases h), by show way.length ≤ wc; omega, fun h => by have : wc = 0 := h; omega⟩, rfl, ⟨rfl, rfl, rfl, rfl, rfl, trivial⟩, wkE_refl _, .inr (.inr ⟨rfl, rfl, ?_, rfl, by omega, rfl⟩), wkE_refl _, trivial⟩
      rw [hway2, Nat.mul_one]
      simp [iC]
    | false =>
    rw [if_neg (of_decide_eq_false hun)]
    ((conv => whnf); (repeat ((first | refine LdN.one (a := some ⟨cb, 0, none⟩) (q := 0) (xs := [_, _, _, _, _]) _ rfl (fun w hw => hw.2.2.2.1) rfl ?_ | refine LdN.one (a := some ⟨cb, 0, none⟩) (q := 1) (xs := [_, _, _, _, _]) _ rfl (fun w hw => hw.2.2.2.1) rfl ?_ | refine LdN.one (a := some ⟨cb, 0, none⟩) (q := 2) (xs := [_, _, _, _, _]) _ rfl (fun w hw => hw.2.2.2.1) rfl ?_ | refine LdN.one (a := some ⟨cb, 0, none⟩) (q := 3) (xs := [_, _, _, _, _]) _ rfl (fun w hw => hw.2.2.2.1) rfl ?_ | refine LdN.one (a := some ⟨cb, 0, none⟩) (q := 4) (xs := [_, _, _, _, _]) _ rfl (fun w hw => hw.2.2.2.1) rfl ?_ | refine RwN.own ?_ | refine VrN.norm (wrap_i64 (by omega)) ?_ | refine VrN.keep ?_ | refine Nd.mk (by decide +kernel) ?_ | refine Nd.mk (by omega) ?_ | (refine Nd.mk ?_ ?_; focus ((repeat' (first | exact trivial | exact wkE_refl _ | refine And.intro ?_ ?_)); done)) | refine RdN.intro _ rfl (by rfl) ?_); (conv => whnf))))
    -- 8: the kind, [35, 60] ++ text: the front
    rw [← hway2]
    have hnd2 : way2.Nodup := by
      rw [hway2]
      exact List.nodup_append.2 ⟨hw, by simp, fun x hx y hy => by
        rw [List.mem_singleton.1 hy]
        intro e
        subst e
        exact of_decide_eq_false hun hx⟩
    have hr2 : ∀ x ∈ way2, 0 ≤ x ∧ x < (l.length : Int) := fun x hx => by
      rw [hway2] at hx
      rcases List.mem_append.1 hx with hx | hx
      · exact hr x hx
      · rw [List.mem_singleton.1 hx]; omega
    obtain ⟨ff, hff⟩ : ∃ ff, ff = fun o k => writeS 20000 (leafS qt it) (l.map (·.c)) m o way2 k := ⟨_, rfl⟩
    rw [← hff]
    have hfx : ∀ o x, ff o x = writeS 20000 (leafS qt it) (l.map (·.c)) m o way2 x := fun o x => by rw [hff]
    have hpre : ∀ i, (preT (Cell.mk 8 num text names items) i).length ≤ 50 := fun i => by
      have := pre_le hsh (u : Int) i
      rw [hat] at this
      exact this
    have hfold : ∀ k, (foldT ff (preT (Cell.mk 8 num text names items)) 0 (items.take k) (out ++ ([35, 60] ++ text))).length ≤ 130000000 := fun k => by
      have hfl : (out ++ ([35, 60] ++ text)).length ≤ out.length + 2002 := by simp; try omega
      have := foldT_len (M := 20000) (f := ff) (pre := preT (Cell.mk 8 num text names items)) (p := 50) (X := 20000 + m * 200000) hpre (by omega) (fun o k ho => by rw [hff]; exact write_same m o _ k ho) (fun o k ho => by rw [hff]; have := write_len (M := 20000) hsh m o way2 k; show (writeS _ _ _ _ _ _ _).length ≤ _; omega) (items.take k) 0 (out ++ ([35, 60] ++ text)) (22002 + m * 200000) (by omega) (by omega)
      rw [List.length_take] at this
      omega
    refine LoopN.intro (Nat × BSt × BSt) (fun ⟨k, i, j⟩ => k ≤ items.length ∧ i.ok (foldT ff (preT (Cell.mk 8 num text names items)) 0 (items.take k) (out ++ ([35, 60] ++ text))).length ∧ j.ok way2.length) (fun ⟨k, _, _⟩ => mkS Tryz.f99.ntmps 0 [(0, .c (.lp 0 0)), (5, .c (.v (.pointer (some ⟨cb, 0, none⟩)))), (8, .c (.v (.string (bs [62])))), (57, .c (.v (.slice ia items.length ic))), (58, .c (.v (.int .i64 (items.length : Int)))), (59, .c (.v (.int .i64 (k : Int))))])
      (fun ⟨k, i, j⟩ => wH (.slice a l.length ca) (gF a l E) true (foldT ff (preT (Cell.mk 8 num text names items)) 0 (items.take k) (out ++ ([35, 60] ++ text))) i way2 j ++ [.dead, .app 42 5 [.int .i64 8, .int .i64 num, .string (bs text), .slice na names.length nc, .slice ia items.length ic] (some ⟨cb, 0, none⟩) 1 1, .dead]) (fun ⟨k, _, _⟩ => items.length - k) [] rfl (fun ⟨_, _, _⟩ => rfl) (fun ⟨_, _, _⟩ => rfl) (fun ⟨_, _, _⟩ _ => okHB_eq rfl) ?_ ?_
    · refine ⟨(0, i2, ⟨some wb, wc⟩), ⟨Nat.zero_le _, hi2, (fun h => by cases h), by show way2.length ≤ wc; omega, fun h => by have : wc = 0 := h; omega⟩, ?_, wkE_refl _, wkE_refl _, wkE_refl _, wkE_refl _, trivial, wkE_refl _, trivial, trivial⟩
      (repeat' (first | exact trivial | refine And.intro (by with_reducible rfl) ?_ | (with_reducible exact wkC_refl _) | (with_reducible exact wkCs_refl _) | refine And.intro ?_ ?_))
      all_goals rfl
    rintro ⟨k, i3, j3⟩ ⟨hk3, hi3, hj3⟩
    ((conv => whnf); (repeat ((first | refine LdN.one (a := some ⟨cb, 0, none⟩) (q := 0) (xs := [_, _, _, _, _]) _ rfl (fun w hw => hw.2.2.2.1) rfl ?_ | refine LdN.one (a := some ⟨cb, 0, none⟩) (q := 1) (xs := [_, _, _, _, _]) _ rfl (fun w hw => hw.2.2.2.1) rfl ?_ | refine LdN.one (a := some ⟨cb, 0, none⟩) (q := 2) (xs := [_, _, _, _, _]) _ rfl (fun w hw => hw.2.2.2.1) rfl ?_ | refine LdN.one (a := some ⟨cb, 0, none⟩) (q := 3) (xs := [_, _, _, _, _]) _ rfl (fun w hw => hw.2.2.2.1) rfl ?_ | refine LdN.one (a := some ⟨cb, 0, none⟩) (q := 4) (xs := [_, _, _, _, _]) _ rfl (fun w hw => hw.2.2.2.1) rfl ?_ | refine RwN.own ?_ | refine VrN.norm (wrap_i64 (by omega)) ?_ | refine VrN.keep ?_ | refine Nd.mk (by decide +kernel) ?_ | refine Nd.mk (by omega) ?_ | (refine Nd.mk ?_ ?_; focus ((repeat' (first | exact trivial | exact wkE_refl _ | refine And.intro ?_ ?_)); done)) | refine RdN.intro _ rfl (by rfl) ?_); (conv => whnf))))
    refine brd_dec (fun h1 => ?_) (fun h1 => ?_)
    · obtain ⟨x, hx⟩ : ∃ x, items[k]? = some x := ⟨_, List.getElem?_eq_getElem (by omega)⟩
      have hxin := cellD_in hcd x (List.mem_of_getElem? hx)
      obtain ⟨xn, rfl⟩ : ∃ xn : Nat, x = (xn : Int) := ⟨x.toNat, by omega⟩
      have hx1 : xn < l.length := by omega
      have hsi : ia.isSome = true := by
        have := hpo.ia
        cases ia with
        | none =>
          have h0 : items = [] := this rfl
          rw [h0] at hx
          cases hx
        | some b => rfl
      have hln : names.length = items.length := cellD_lens hcd rfl
      obtain ⟨nm, hnm⟩ : ∃ nm, names[k]? = some nm := ⟨_, List.getElem?_eq_getElem (by omega)⟩
      have hnl40 : nm.length ≤ 40 := cellD_names hcd nm (List.mem_of_getElem? hnm)
      have hsn : na.isSome = true := by
        have := hpo.na
        cases na with
        | none =>
          have h0 : names = [] := this rfl
          rw [h0] at hnm
          cases hnm
        | some b => rfl
      ((conv => whnf); (repeat ((first | refine LdN.one (a := some ⟨cb, 0, none⟩) (q := 0) (xs := [_, _, _, _, _]) _ rfl (fun w hw => hw.2.2.2.1) rfl ?_ | refine LdN.one (a := some ⟨cb, 0, none⟩) (q := 1) (xs := [_, _, _, _, _]) _ rfl (fun w hw => hw.2.2.2.1) rfl ?_ | refine LdN.one (a := some ⟨cb, 0, none⟩) (q := 2) (xs := [_, _, _, _, _]) _ rfl (fun w hw => hw.2.2.2.1) rfl ?_ | refine LdN.one (a := some ⟨cb, 0, none⟩) (q := 3) (xs := [_, _, _, _, _]) _ rfl (fun w hw => hw.2.2.2.1) rfl ?_ | refine LdN.one (a := some ⟨cb, 0, none⟩) (q := 4) (xs := [_, _, _, _, _]) _ rfl (fun w hw => hw.2.2.2.1) rfl ?_ | refine RwN.own ?_ | refine VrN.norm (wrap_i64 (by omega)) ?_ | refine VrN.keep ?_ | refine Nd.mk (by decide +kernel) ?_ | refine Nd.mk (by omega) ?_ | (refine Nd.mk ?_ ?_; focus ((repeat' (first | exact trivial | exact wkE_refl _ | refine And.intro ?_ ?_)); done)) | refine RdN.intro _ rfl (by rfl) ?_); (conv => whnf))))
      refine Nd.mk ⟨hsi, by omega, by omega⟩ ?_
      ((conv => whnf); (repeat ((first | refine LdN.one (a := some ⟨cb, 0, none⟩) (q := 0) (xs := [_, _, _, _, _]) _ rfl (fun w hw => hw.2.2.2.1) rfl ?_ | refine LdN.one (a := some ⟨cb, 0, none⟩) (q := 1) (xs := [_, _, _, _, _]) _ rfl (fun w hw => hw.2.2.2.1) rfl ?_ | refine LdN.one (a := some ⟨cb, 0, none⟩) (q := 2) (xs := [_, _, _, _, _]) _ rfl (fun w hw => hw.2.2.2.1) rfl ?_ | refine LdN.one (a := some ⟨cb, 0, none⟩) (q := 3) (xs := [_, _, _, _, _]) _ rfl (fun w hw => hw.2.2.2.1) rfl ?_ | refine LdN.one (a := some ⟨cb, 0, none⟩) (q := 4) (xs := [_, _, _, _, _]) _ rfl (fun w hw => hw.2.2.2.1) rfl ?_ | refine RwN.own ?_ | refine VrN.norm (wrap_i64 (by omega)) ?_ | refine VrN.keep ?_ | refine Nd.mk (by decide +kernel) ?_ | refine Nd.mk (by omega) ?_ | (refine Nd.mk ?_ ?_; focus ((repeat' (first | exact trivial | exact wkE_refl _ | refine And.intro ?_ ?_)); done)) | refine RdN.intro _ rfl (by rfl) ?_); (conv => whnf))))
      refine LdN.one (.int .i64 (xn : Int)) rfl (fun w hw => (hw.2.2.1.1.2 _ hpm).2) (by rw [Int.toNat_natCast]; show (iC items)[k * 1]? = _; rw [Nat.mul_one]; exact iC_get hx) ?_
      ((conv => whnf); (repeat ((first | refine LdN.one (a := some ⟨cb, 0, none⟩) (q := 0) (xs := [_, _, _, _, _]) _ rfl (fun w hw => hw.2.2.2.1) rfl ?_ | refine LdN.one (a := some ⟨cb, 0, none⟩) (q := 1) (xs := [_, _, _, _, _]) _ rfl (fun w hw => hw.2.2.2.1) rfl ?_ | refine LdN.one (a := some ⟨cb, 0, none⟩) (q := 2) (xs := [_, _, _, _, _]) _ rfl (fun w hw => hw.2.2.2.1) rfl ?_ | refine LdN.one (a := some ⟨cb, 0, none⟩) (q := 3) (xs := [_, _, _, _, _]) _ rfl (fun w hw => hw.2.2.2.1) rfl ?_ | refine LdN.one (a := some ⟨cb, 0, none⟩) (q := 4) (xs := [_, _, _, _, _]) _ rfl (fun w hw => hw.2.2.2.1) rfl ?_ | refine RwN.own ?_ | refine VrN.norm (wrap_i64 (by omega)) ?_ | refine VrN.keep ?_ | refine Nd.mk (by decide +kernel) ?_ | refine Nd.mk (by omega) ?_ | (refine Nd.mk ?_ ?_; focus ((repeat' (first | exact trivial | exact wkE_refl _ | refine And.intro ?_ ?_)); done)) | refine RdN.intro _ rfl (by rfl) ?_); (conv => whnf))))
      refine DrawN.planK hm (fun w => SlAt (some ⟨cb, 0, none⟩) 5 [.int .i64 8, .int .i64 num, .string (bs text), .slice na names.length nc, .slice ia items.length ic] w ∧ SlAt na (names.length * 1) (strC names) w) [3] [0, 4, 8, 10] [(1, 1), (2, 1), (5, 1), (9, 1), (11, 1), (12, 1), (3, 2), (6, 0), (7, 0), (13, 0), (14, 0), (15, 0)] (by decide +kernel) (fun w hw => ⟨hw.2.2.2.1, (hw.2.2.1.1.2 _ hpm).1⟩) ?_
      -- fun w hw => ⟨hw.2.2.2.1, (hw.2.2.1.1.2 _ hpm).1⟩: why the kind holds
      ((conv => whnf); (repeat ((first | refine Nd.mk (fun w hw => ⟨hw.2.2.2.1, (hw.2.2.1.1.2 _ hpm).1⟩) ?_ | refine VrN.norm (wrap_i64 (by omega)) ?_ | refine VrN.keep ?_ | refine Nd.mk (by decide +kernel) ?_ | refine Nd.mk (by omega) ?_ | refine RdN.intro _ rfl (by rfl) ?_); (conv => whnf))))
      refine BlindW.min2 (x := .tmp 68) (y := .const (.int .i64 1)) (a := (k : Int)) (b := 1) rfl rfl ?_ rfl ?_
      · rfl
      -- fun w hw => ⟨hw.2.2.2.1, (hw.2.2.1.1.2 _ hpm).1⟩: why the kind holds
      ((conv => whnf); (repeat ((first | refine Nd.mk (fun w hw => ⟨hw.2.2.2.1, (hw.2.2.1.1.2 _ hpm).1⟩) ?_ | refine VrN.norm (wrap_i64 (by omega)) ?_ | refine VrN.keep ?_ | refine Nd.mk (by decide +kernel) ?_ | refine Nd.mk (by omega) ?_ | refine RdN.intro _ rfl (by rfl) ?_); (conv => whnf))))
      refine ReadC.one (T := 40) (x := .tmp 72) (a := some ⟨cb, 0, none⟩) (q := 3) (k := 5) (xs := [.int .i64 8, .int .i64 num, .string (bs text), .slice na names.length nc, .slice ia items.length ic]) (.slice na names.length nc) ?_ ?_ ?_ ?_ ?_ ?_
      · rfl
      · rfl
      · rfl
      · exact fun w hw => hw.1
      · rfl
      -- fun w hw => ⟨hw.2.2.2.1, (hw.2.2.1.1.2 _ hpm).1⟩: why the kind holds
      ((conv => whnf); (repeat ((first | refine Nd.mk (fun w hw => ⟨hw.2.2.2.1, (hw.2.2.1.1.2 _ hpm).1⟩) ?_ | refine VrN.norm (wrap_i64 (by omega)) ?_ | refine VrN.keep ?_ | refine Nd.mk (by decide +kernel) ?_ | refine Nd.mk (by omega) ?_ | refine RdN.intro _ rfl (by rfl) ?_); (conv => whnf))))
      refine ReadC.idxA (T := 40) (x := .tmp 73) (i := .tmp 74) (kk := .i64) (e := 9) (sz := 1) (a := na) (n := names.length) (cap := nc) k rfl Tryz.underlying40 rfl rfl ?_ ?_ hsn (by omega) ?_
      · rfl
      · rfl
      -- fun w hw => ⟨hw.2.2.2.1, (hw.2.2.1.1.2 _ hpm).1⟩: why the kind holds
      ((conv => whnf); (repeat ((first | refine Nd.mk (fun w hw => ⟨hw.2.2.2.1, (hw.2.2.1.1.2 _ hpm).1⟩) ?_ | refine VrN.norm (wrap_i64 (by omega)) ?_ | refine VrN.keep ?_ | refine Nd.mk (by decide +kernel) ?_ | refine Nd.mk (by omega) ?_ | refine RdN.intro _ rfl (by rfl) ?_); (conv => whnf))))
      refine ReadC.one (T := 9) (x := .tmp 75) (a := na) (q := k * 1) (k := names.length * 1) (xs := strC names) (.string (bs nm)) ?_ ?_ ?_ ?_ ?_ ?_
      · rfl
      · rfl
      · rfl
      · exact fun w hw => hw.2
      · rw [Nat.mul_one]; exact strC_get hnm
      -- fun w hw => ⟨hw.2.2.2.1, (hw.2.2.1.1.2 _ hpm).1⟩: why the kind holds
      ((conv => whnf); (repeat ((first | refine Nd.mk (fun w hw => ⟨hw.2.2.2.1, (hw.2.2.1.1.2 _ hpm).1⟩) ?_ | refine VrN.norm (wrap_i64 (by omega)) ?_ | refine VrN.keep ?_ | refine Nd.mk (by decide +kernel) ?_ | refine Nd.mk (by omega) ?_ | refine RdN.intro _ rfl (by rfl) ?_); (conv => whnf))))
      intro rb
      -- fun w hw => ⟨hw.2.2.2.1, (hw.2.2.1.1.2 _ hpm).1⟩: why the kind holds
      ((conv => whnf); (repeat ((first | refine Nd.mk (fun w hw => ⟨hw.2.2.2.1, (hw.2.2.1.1.2 _ hpm).1⟩) ?_ | refine VrN.norm (wrap_i64 (by omega)) ?_ | refine VrN.keep ?_ | refine Nd.mk (by decide +kernel) ?_ | refine Nd.mk (by omega) ?_ | refine RdN.intro _ rfl (by rfl) ?_); (conv => whnf))))
      refine Nd.mk ⟨rfl, by unfold minI; split <;> omega, by unfold minI; split <;> omega⟩ ?_
      -- fun w hw => ⟨hw.2.2.2.1, (hw.2.2.1.1.2 _ hpm).1⟩: why the kind holds
      ((conv => whnf); (repeat ((first | refine Nd.mk (fun w hw => ⟨hw.2.2.2.1, (hw.2.2.1.1.2 _ hpm).1⟩) ?_ | refine VrN.norm (wrap_i64 (by omega)) ?_ | refine VrN.keep ?_ | refine Nd.mk (by decide +kernel) ?_ | refine Nd.mk (by omega) ?_ | refine RdN.intro _ rfl (by rfl) ?_); (conv => whnf))))
      obtain ⟨sp, hsp⟩ : ∃ sp : List UInt8, sp = if k = 0 then [32] else [44, 32] := ⟨_, rfl⟩
      have hspl : sp.length ≤ 2 := by rw [hsp]; split <;> simp
      refine LdN.one (a := some ⟨rb, 0, none⟩) (xs := [.string { data := #[32] }, .string { data := #[44, 32] }]) (.string (bs sp)) rfl (fun w hw => hw.2.2.2.2.1) ?_ ?_
      · rw [hsp]
        rcases Nat.eq_zero_or_pos k with hk0 | hk0
        · rw [if_pos hk0, hk0]; rfl
        · rw [if_neg (by omega), show minI (k : Int) 1 = if k = 1 then 1 else 1 by unfold minI; split <;> split <;> omega]
          split <;> rfl
      -- fun w hw => ⟨hw.2.2.2.1, (hw.2.2.1.1.2 _ hpm).1⟩: why the kind holds
      ((conv => whnf); (repeat ((first | refine Nd.mk (fun w hw => ⟨hw.2.2.2.1, (hw.2.2.1.1.2 _ hpm).1⟩) ?_ | refine VrN.norm (wrap_i64 (by omega)) ?_ | refine VrN.keep ?_ | refine Nd.mk (by decide +kernel) ?_ | refine Nd.mk (by omega) ?_ | refine RdN.intro _ rfl (by rfl) ?_); (conv => whnf))))
      refine Nd.mk (by rw [bs_size, bs_size]; omega) ?_
      rw [bs_app]
      -- fun w hw => ⟨hw.2.2.2.1, (hw.2.2.1.1.2 _ hpm).1⟩: why the kind holds
      ((conv => whnf); (repeat ((first | refine Nd.mk (fun w hw => ⟨hw.2.2.2.1, (hw.2.2.1.1.2 _ hpm).1⟩) ?_ | refine VrN.norm (wrap_i64 (by omega)) ?_ | refine VrN.keep ?_ | refine Nd.mk (by decide +kernel) ?_ | refine Nd.mk (by omega) ?_ | refine RdN.intro _ rfl (by rfl) ?_); (conv => whnf))))
      refine Nd.mk (by show (bs (sp ++ nm)).size + 1 < _; rw [bs_size]; simp; omega) ?_
      rw [show (bs (sp ++ nm) ++ ({ data := #[61] } : ByteArray)) = bs (sp ++ nm ++ [61]) by rw [← bs_app]; rfl]
      -- fun w hw => ⟨hw.2.2.2.1, (hw.2.2.1.1.2 _ hpm).1⟩: why the kind holds
      ((conv => whnf); (repeat ((first | refine Nd.mk (fun w hw => ⟨hw.2.2.2.1, (hw.2.2.1.1.2 _ hpm).1⟩) ?_ | refine VrN.norm (wrap_i64 (by omega)) ?_ | refine VrN.keep ?_ | refine Nd.mk (by decide +kernel) ?_ | refine Nd.mk (by omega) ?_ | refine RdN.intro _ rfl (by rfl) ?_); (conv => whnf))))
      have hnd : names.getD k [] = nm := by rw [List.getD_eq_getElem?_getD, hnm]; rfl
      refine callG (WriteString_w _ _ way2 j3 true (foldT ff (preT (Cell.mk 8 num text names items)) 0 (items.take k) (out ++ ([35, 60] ++ text))) (sp ++ nm ++ [61]) i3 hi3 (by have := hfold k; simp only [List.length_append, List.length_cons, List.length_nil] at this ⊢; omega)) [0, 1, 2, 3] rfl ⟨rfl, rfl, rfl, rfl, trivial⟩ rfl fun i6 hi6 => ?_
      -- fun w hw => ⟨hw.2.2.2.1, (hw.2.2.1.1.2 _ hpm).1⟩: why the kind holds
      ((conv => whnf); (repeat ((first | refine Nd.mk (fun w hw => ⟨hw.2.2.2.1, (hw.2.2.1.1.2 _ hpm).1⟩) ?_ | refine VrN.norm (wrap_i64 (by omega)) ?_ | refine VrN.keep ?_ | refine Nd.mk (by decide +kernel) ?_ | refine Nd.mk (by omega) ?_ | refine RdN.intro _ rfl (by rfl) ?_); (conv => whnf))))
      ((conv => whnf); (repeat ((first | refine LdN.one (a := some ⟨cb, 0, none⟩) (q := 0) (xs := [_, _, _, _, _]) _ rfl (fun w hw => hw.2.2.2.1) rfl ?_ | refine LdN.one (a := some ⟨cb, 0, none⟩) (q := 1) (xs := [_, _, _, _, _]) _ rfl (fun w hw => hw.2.2.2.1) rfl ?_ | refine LdN.one (a := some ⟨cb, 0, none⟩) (q := 2) (xs := [_, _, _, _, _]) _ rfl (fun w hw => hw.2.2.2.1) rfl ?_ | refine LdN.one (a := some ⟨cb, 0, none⟩) (q := 3) (xs := [_, _, _, _, _]) _ rfl (fun w hw => hw.2.2.2.1) rfl ?_ | refine LdN.one (a := some ⟨cb, 0, none⟩) (q := 4) (xs := [_, _, _, _, _]) _ rfl (fun w hw => hw.2.2.2.1) rfl ?_ | refine RwN.own ?_ | refine VrN.norm (wrap_i64 (by omega)) ?_ | refine VrN.keep ?_ | refine Nd.mk (by decide +kernel) ?_ | refine Nd.mk (by omega) ?_ | (refine Nd.mk ?_ ?_; focus ((repeat' (first | exact trivial | exact wkE_refl _ | refine And.intro ?_ ?_)); done)) | refine RdN.intro _ rfl (by rfl) ?_); (conv => whnf))))
      refine callG (ih (by omega) (foldT ff (preT (Cell.mk 8 num text names items)) 0 (items.take k) (out ++ ([35, 60] ++ text)) ++ (sp ++ nm ++ [61])) way2 i6 j3 xn hi6 hj3 hx1 hnd2 hr2 (by omega) (by have := hfold k; simp only [List.length_append, List.length_cons, List.length_nil] at this ⊢; omega)) [0, 1, 2, 3] rfl ⟨rfl, rfl, rfl, rfl, trivial⟩ rfl fun st hst => ?_
      obtain ⟨i5, j5⟩ := st
      obtain ⟨hi5, hj5⟩ := hst
      simp only at hi5 hj5
      ((conv => whnf); (repeat ((first | refine LdN.one (a := some ⟨cb, 0, none⟩) (q := 0) (xs := [_, _, _, _, _]) _ rfl (fun w hw => hw.2.2.2.1) rfl ?_ | refine LdN.one (a := some ⟨cb, 0, none⟩) (q := 1) (xs := [_, _, _, _, _]) _ rfl (fun w hw => hw.2.2.2.1) rfl ?_ | refine LdN.one (a := some ⟨cb, 0, none⟩) (q := 2) (xs := [_, _, _, _, _]) _ rfl (fun w hw => hw.2.2.2.1) rfl ?_ | refine LdN.one (a := some ⟨cb, 0, none⟩) (q := 3) (xs := [_, _, _, _, _]) _ rfl (fun w hw => hw.2.2.2.1) rfl ?_ | refine LdN.one (a := some ⟨cb, 0, none⟩) (q := 4) (xs := [_, _, _, _, _]) _ rfl (fun w hw => hw.2.2.2.1) rfl ?_ | refine RwN.own ?_ | refine VrN.norm (wrap_i64 (by omega)) ?_ | refine VrN.keep ?_ | refine Nd.mk (by decide +kernel) ?_ | refine Nd.mk (by omega) ?_ | (refine Nd.mk ?_ ?_; focus ((repeat' (first | exact trivial | exact wkE_refl _ | refine And.intro ?_ ?_)); done)) | refine RdN.intro _ rfl (by rfl) ?_); (conv => whnf))))
      have hfs := foldT_take (f := ff) (pre := preT (Cell.mk 8 num text names items)) hx (out ++ ([35, 60] ++ text))
      rw [show preT (Cell.mk 8 num text names items) k = sp ++ nm ++ [61] from by rw [preT_8 rfl, ← hsp]; show sp ++ names.getD k [] ++ [61] = _; rw [hnd], hfx] at hfs
      refine ⟨(k + 1, i5, j5), ⟨by omega, by rw [hfs]; exact hi5, hj5⟩, by show items.length - (k + 1) < items.length - k; omega, ?_, ?_⟩
      · (repeat' (first | exact trivial | refine And.intro (by with_reducible rfl) ?_ | (with_reducible exact wkC_refl _) | (with_reducible exact wkCs_refl _) | refine And.intro ?_ ?_))
        all_goals first | rfl | exact av_int (by rw [wrap_i64 (by omega)]; omega) | exact av_int (by omega)
      · show wkH _ (wH _ _ true (foldT ff _ 0 (items.take (k + 1)) _) _ _ _ ++ _)
        rw [hfs]
        exact ⟨wkE_refl _, wkE_refl _, wkE_refl _, wkE_refl _, trivial, wkE_refl _, trivial, trivial⟩
    · have hin : k = items.length := by omega
      subst hin
      rw [List.take_length] at hi3 ⊢
      have hfe := hfold items.length
      rw [List.take_length] at hfe
      obtain ⟨wb, wc⟩ := j3
      cases wb with
      | none =>
        have := (hj3.1 rfl).1
        omega
      | some wb =>
      have hwc3 : way2.length ≤ wc := hj3.2.1
      ((conv => whnf); (repeat ((first | refine LdN.one (a := some ⟨cb, 0, none⟩) (q := 0) (xs := [_, _, _, _, _]) _ rfl (fun w hw => hw.2.2.2.1) rfl ?_ | refine LdN.one (a := some ⟨cb, 0, none⟩) (q := 1) (xs := [_, _, _, _, _]) _ rfl (fun w hw => hw.2.2.2.1) rfl ?_ | refine LdN.one (a := some ⟨cb, 0, none⟩) (q := 2) (xs := [_, _, _, _, _]) _ rfl (fun w hw => hw.2.2.2.1) rfl ?_ | refine LdN.one (a := some ⟨cb, 0, none⟩) (q := 3) (xs := [_, _, _, _, _]) _ rfl (fun w hw => hw.2.2.2.1) rfl ?_ | refine LdN.one (a := some ⟨cb, 0, none⟩) (q := 4) (xs := [_, _, _, _, _]) _ rfl (fun w hw => hw.2.2.2.1) rfl ?_ | refine RwN.own ?_ | refine VrN.norm (wrap_i64 (by omega)) ?_ | refine VrN.keep ?_ | refine Nd.mk (by decide +kernel) ?_ | refine Nd.mk (by omega) ?_ | (refine Nd.mk ?_ ?_; focus ((repeat' (first | exact trivial | exact wkE_refl _ | refine And.intro ?_ ?_)); done)) | refine RdN.intro _ rfl (by rfl) ?_); (conv => whnf))))
      refine callG (WriteString_w _ _ way2 ⟨some wb, wc⟩ true (foldT ff (preT (Cell.mk 8 num text names items)) 0 items (out ++ ([35, 60] ++ text))) [62] i3 hi3 (by simp only [List.length_cons, List.length_nil]; omega)) [0, 1, 2, 3] rfl ⟨rfl, rfl, rfl, rfl, trivial⟩ rfl fun i7 hi7 => ?_
      ((conv => whnf); (repeat ((first | refine LdN.one (a := some ⟨cb, 0, none⟩) (q := 0) (xs := [_, _, _, _, _]) _ rfl (fun w hw => hw.2.2.2.1) rfl ?_ | refine LdN.one (a := some ⟨cb, 0, none⟩) (q := 1) (xs := [_, _, _, _, _]) _ rfl (fun w hw => hw.2.2.2.1) rfl ?_ | refine LdN.one (a := some ⟨cb, 0, none⟩) (q := 2) (xs := [_, _, _, _, _]) _ rfl (fun w hw => hw.2.2.2.1) rfl ?_ | refine LdN.one (a := some ⟨cb, 0, none⟩) (q := 3) (xs := [_, _, _, _, _]) _ rfl (fun w hw => hw.2.2.2.1) rfl ?_ | refine LdN.one (a := some ⟨cb, 0, none⟩) (q := 4) (xs := [_, _, _, _, _]) _ rfl (fun w hw => hw.2.2.2.1) rfl ?_ | refine RwN.own ?_ | refine VrN.norm (wrap_i64 (by omega)) ?_ | refine VrN.keep ?_ | refine Nd.mk (by decide +kernel) ?_ | refine Nd.mk (by omega) ?_ | (refine Nd.mk ?_ ?_; focus ((repeat' (first | exact trivial | exact wkE_refl _ | refine And.intro ?_ ?_)); done)) | refine RdN.intro _ rfl (by rfl) ?_); (conv => whnf))))
      -- i7: the Builder's place
      refine DrawN.plan [0, 1, 5] [(2, 1), (3, 1), (4, 1), (6, 1), (7, 1), (8, 1), (9, 1), (10, 1), (11, 1), (12, 1), (13, 1)] [(14, 0)] (by decide +kernel) ?_
      ((conv => whnf); (repeat ((first | refine BoxN.own ?_ | refine RwN.own ?_ | refine VrN.norm (wrap_i64 (by omega)) ?_ | refine VrN.keep ?_ | refine Nd.mk (by decide +kernel) ?_ | refine Nd.mk (by omega) ?_ | (refine Nd.mk ?_ ?_; focus ((repeat' (first | exact trivial | exact wkE_refl _ | refine And.intro ?_ ?_)); done)) | refine RdN.intro _ rfl (by rfl) ?_); (conv => whnf))))
      rw [show IntKind.i64.wrap ((way2.length : Int) - 1) = (way.length : Int) by rw [wrap_i64 (by omega)]; omega]
      refine ReadW.slc_hi rfl (by kernel_rfl) rfl rfl (by show (0 : Int) ≤ (way.length : Int) ∧ (way.length : Int) ≤ (wc : Int); omega) ?_
      rw [Int.toNat_natCast]
      ((conv => whnf); (repeat ((first | refine BoxN.own ?_ | refine RwN.own ?_ | refine VrN.norm (wrap_i64 (by omega)) ?_ | refine VrN.keep ?_ | refine Nd.mk (by decide +kernel) ?_ | refine Nd.mk (by omega) ?_ | (refine Nd.mk ?_ ?_; focus ((repeat' (first | exact trivial | exact wkE_refl _ | refine And.intro ?_ ?_)); done)) | refine RdN.intro _ rfl (by rfl) ?_); (conv => whnf))))
      refine ⟨(i7, ⟨some wb, wc⟩), ⟨hi7, (fun h => by cases h), by show way.length ≤ wc; omega, fun h => by have : wc = 0 := h; omega⟩, rfl, ⟨rfl, rfl, rfl, rfl, rfl, trivial⟩, wkE_refl _, .inr (.inr ⟨rfl, rfl, ?_, rfl, by omega, rfl⟩), wkE_refl _, trivial⟩
      rw [hway2, Nat.mul_one]
      simp [iC]
end Go.Proofs.YtahjbnfbilkbcaaGreatDoor

/-
  Contract: Text (program).
-/
namespace Go.Proofs.YtahjbnfbilkbcaaGreatDoor
open Go.AX Go.RowKit Go.Core Go.Scan
set_option maxRecDepth 20000

/-- The text that is told. -/
def textP (lf : Cell → List UInt8) (g : List Cell) (u : Int) : List UInt8 := (writeS 20000 lf g (g.length + 2) [] [] u).take 20000
set_option maxHeartbeats 4000000 in
theorem Text_c {a : Option Addr} (ca : Nat) {l : List CellP} {E : World → Prop} {qt : List UInt8 → List UInt8} {it : Int → List UInt8} (ha : a = none → l = []) (hs : Small l) (hok : ∀ p ∈ l, CellOk p) (V : ValidP (l.map (·.c)) → WEnv a l E qt it) (u : Int) :
    ∀ H, (∀ w, Facts H w → gF a l E w) → ∃ e : Bool, (e = true ↔ AskP (l.map (·.c)) [u]) ∧ SpecH Tryz.prog 20 (pvs [.slice a l.length ca, .int .i64 u]) H (Ret (.tuple #[.string (bs (if e then textP (leafS qt it) (l.map (·.c)) u else [])), errI e]) H) := by
  intro H hH
  obtain ⟨e, he⟩ : ∃ b : Bool, b = true ↔ AskP (l.map (·.c)) [u] := by
    by_cases h : AskP (l.map (·.c)) [u]
    · exact ⟨true, fun _ => h, fun _ => rfl⟩
    · exact ⟨false, (fun h => by cases h), fun h2 => absurd h2 h⟩
  refine ⟨e, he, ?_⟩
  refine factC hm Tryz.func20 (by kernel_rfl) rfl rfl ?_ H hH
  ((conv => whnf); (repeat ((first | refine BoxN.own ?_ | refine VrN.norm (wrap_i64 (by omega)) ?_ | refine VrN.keep ?_ | refine DrawN.calm (by decide +kernel) ?_ | refine Nd.mk (by decide +kernel) ?_ | refine Nd.mk (by omega) ?_ | (refine Nd.mk ?_ ?_; focus ((repeat' (first | exact trivial | exact wkE_refl _ | refine And.intro ?_ ?_)); done)) | refine RdN.intro _ rfl (by rfl) ?_); (conv => whnf))))
  refine RwN.known [.int .i64 u] rfl fun rb => ?_
  ((conv => whnf); (repeat ((first | refine BoxN.own ?_ | refine VrN.norm (wrap_i64 (by omega)) ?_ | refine VrN.keep ?_ | refine DrawN.calm (by decide +kernel) ?_ | refine Nd.mk (by decide +kernel) ?_ | refine Nd.mk (by omega) ?_ | (refine Nd.mk ?_ ?_; focus ((repeat' (first | exact trivial | exact wkE_refl _ | refine And.intro ?_ ?_)); done)) | refine RdN.intro _ rfl (by rfl) ?_); (conv => whnf))))
  obtain ⟨t, ht1, ht2⟩ := asked_c a ca l ha hs hok (some ⟨rb, 0, none⟩) 1 [u] (fun h => by cases h) (by simp) [.fact (gF a l E), .app 3 1 [.int .i64 u] (some ⟨rb, 0, none⟩) 1 1] (fun w hw => ⟨hw.1.1, hw.2.1⟩)
  obtain rfl : t = e := by rw [Bool.eq_iff_iff, ht1, he]
  refine call1 ht2 ?_
  cases t with
  | false =>
    (first | refine wX ?_ | exact wZ)
    rfl
  | true =>
    have hask := he.1 rfl
    have hu := hask.2 u (by simp)
    obtain ⟨v, rfl⟩ : ∃ v : Nat, u = (v : Int) := ⟨u.toNat, by omega⟩
    have hgl : (l.map (·.c)).length = l.length := by simp
    have h500 := hask.1.1
    have hwe := V hask.1
    (first | refine wX ?_ | exact wZ)
    refine SpecH.pad [.app 5 1 [] none 0 0, .app 3 1 [] none 0 0] rfl ?_
    have hok0 : BSt.ok (0 : Nat) ⟨none, 0⟩ := ⟨fun _ => ⟨rfl, rfl⟩, Nat.le_refl _, fun _ => rfl⟩
    refine callG (write_f ca hwe (l.length + 1) (by omega) [] [] ⟨none, 0⟩ ⟨none, 0⟩ v hok0 hok0 (by omega) List.nodup_nil (fun x hx => by cases hx) (by simp) (by simp)) [2, 3, 4, 0] rfl ⟨rfl, rfl, rfl, rfl, trivial⟩ rfl fun st hst => ?_
    obtain ⟨i2, j2⟩ := st
    obtain ⟨hi2, hj2⟩ := hst
    simp only at hi2 hj2
    have htp : textP (leafS qt it) (l.map (·.c)) (v : Int) = (writeS 20000 (leafS qt it) (l.map (·.c)) (l.length + 1 + 1) [] [] (v : Int)).take 20000 := by unfold textP; rw [hgl]
    rw [htp]
    generalize writeS 20000 (leafS qt it) (l.map (·.c)) (l.length + 1 + 1) [] [] (v : Int) = T at *
    (first | refine wX ?_ | exact wZ)
    refine callG (String_w _ _ [] j2 true T i2 hi2) [2, 3, 4, 0] rfl ⟨rfl, rfl, rfl, rfl, trivial⟩ rfl fun _ _ => ?_
    (first | refine wX ?_ | exact wZ)
    rw [bs_size]
    refine ReadW.sl_h (min T.length 20000) rfl Tryz.underlying9 rfl rfl ⟨by unfold minI; split <;> omega, Nat.min_le_left _ _⟩ ?_
    rw [show T.take (min T.length 20000) = T.take 20000 by
      rcases Nat.le_total T.length 20000 with h | h
      · rw [Nat.min_eq_left h, List.take_of_length_le (Nat.le_refl _), List.take_of_length_le h]
      · rw [Nat.min_eq_right h]]
    (first | refine wX ?_ | exact wZ)
    rfl
end Go.Proofs.YtahjbnfbilkbcaaGreatDoor

/-
  Numbers and quoted texts, as both writers write them.
-/
namespace Go.Proofs.YtahjbnfbilkbcaaGreatDoor
open Go.AX Go.RowKit Go.Core Go.Scan
set_option maxRecDepth 20000

end Go.Proofs.YtahjbnfbilkbcaaGreatDoor

/-
  Contract: the document writes a cell.
-/
namespace Go.Core
end Go.Core
namespace Go.Proofs.YtahjbnfbilkbcaaGreatDoor
open Go.AX Go.RowKit Go.Core Go.Scan
set_option maxRecDepth 20000

section
attribute [local irreducible] Int.decLt
end
end Go.Proofs.YtahjbnfbilkbcaaGreatDoor

/-
  Contract: the first example of the chapter (law).
-/
namespace Go.Proofs.YtahjbnfbilkbcaaGreatDoor
open Go.AX Go.RowKit Go.Core Go.Scan
set_option maxRecDepth 20000

def exC : Cell := ⟨6, 0, [], [], [0]⟩
def exP (ib : Nat) : CellP := ⟨exC, none, 0, some ⟨ib, 0, none⟩, 1⟩
def qI (s : List UInt8) : List UInt8 := s
def iI (_ : Int) : List UInt8 := []
theorem ex_val : ValidP [exC] := ⟨by decide, fun c hc => by rw [List.mem_singleton.1 hc]; decide, fun c hc h => by rw [List.mem_singleton.1 hc] at h; exact absurd h (by decide)⟩
theorem ex_ask : AskP [exC] [0] := ⟨ex_val, fun x hx => by rw [List.mem_singleton.1 hx]; decide⟩
theorem ex_text : textP (leafS qI iI) [exC] 0 = [91, 91, 46, 46, 46, 93, 93] := by decide +kernel
theorem ex_env (ib gb : Nat) : WEnv (some ⟨gb, 0, none⟩) [exP ib] (fun _ => True) qI iI := by
  refine ⟨(fun h => by cases h), ⟨by simp, fun p hp => ?_⟩, fun p hp => ?_, ex_val, fun p hp h => ?_, fun s => ?_, fun p hp h => ?_, fun x => Nat.zero_le _⟩
  · rw [List.mem_singleton.1 hp]; exact ⟨by show (0 : Nat) ≤ 2000; omega, by show (1 : Nat) ≤ 2000; omega⟩
  · rw [List.mem_singleton.1 hp]
    exact ⟨(fun _ => rfl), (fun h => by cases h), by show (0 : Nat) ≤ _; omega, by show (1 : Nat) ≤ _; omega, (fun s hs => by cases hs), by show (0 : Nat) ≤ _; omega, Nat.le_refl _, Nat.le_refl _⟩
  · rw [List.mem_singleton.1 hp] at h; exact absurd (show (6 : Int) = 4 from h) (by decide)
  · show s.length ≤ 2 * s.length; omega
  · rw [List.mem_singleton.1 hp] at h; exact absurd (show (6 : Int) = 3 from h) (by decide)
set_option maxHeartbeats 4000000 in
theorem sane_c : ∀ H, SpecH Tryz.prog 15 (pvs []) H (Ret (.bool true) H) := by
  refine pureC hm Tryz.func15 (by kernel_rfl) rfl rfl ?_
  ((conv => whnf); (repeat ((first | refine BoxN.own ?_ | refine VrN.norm (wrap_i64 (by omega)) ?_ | refine VrN.keep ?_ | refine DrawN.calm (by decide +kernel) ?_ | refine Nd.mk (by decide +kernel) ?_ | refine Nd.mk (by omega) ?_ | (refine Nd.mk ?_ ?_; focus ((repeat' (first | exact trivial | exact wkE_refl _ | refine And.intro ?_ ?_)); done)) | refine RdN.intro _ rfl (by rfl) ?_); (conv => whnf))))
  refine RwN.known [.int .i64 0] rfl fun ib => ?_
  ((conv => whnf); (repeat ((first | refine BoxN.own ?_ | refine VrN.norm (wrap_i64 (by omega)) ?_ | refine VrN.keep ?_ | refine DrawN.calm (by decide +kernel) ?_ | refine Nd.mk (by decide +kernel) ?_ | refine Nd.mk (by omega) ?_ | (refine Nd.mk ?_ ?_; focus ((repeat' (first | exact trivial | exact wkE_refl _ | refine And.intro ?_ ?_)); done)) | refine RdN.intro _ rfl (by rfl) ?_); (conv => whnf))))
  refine RwN.known [.int .i64 6, .int .i64 0, .string { data := #[] }, .slice none 0 0, .slice (some ⟨ib, 0, none⟩) 1 1] rfl fun gb => ?_
  ((conv => whnf); (repeat ((first | refine BoxN.own ?_ | refine VrN.norm (wrap_i64 (by omega)) ?_ | refine VrN.keep ?_ | refine DrawN.calm (by decide +kernel) ?_ | refine Nd.mk (by decide +kernel) ?_ | refine Nd.mk (by omega) ?_ | (refine Nd.mk ?_ ?_; focus ((repeat' (first | exact trivial | exact wkE_refl _ | refine And.intro ?_ ?_)); done)) | refine RdN.intro _ rfl (by rfl) ?_); (conv => whnf))))
  have he := ex_env ib gb
  obtain ⟨e, he1, he2⟩ := Text_c (E := fun _ => True) 1 he.ha he.sm he.ok (fun _ => he) 0 [.app 3 1 [.int .i64 0] (some ⟨ib, 0, none⟩) 1 1, .app 42 5 [.int .i64 6, .int .i64 0, .string { data := #[] }, .slice none 0 0, .slice (some ⟨ib, 0, none⟩) 1 1] (some ⟨gb, 0, none⟩) 1 1] (fun w hw => ⟨⟨hw.2.1, fun p hp => by
    rw [List.mem_singleton.1 hp]
    exact ⟨SlAt.nil, hw.1⟩⟩, trivial⟩)
  obtain rfl : e = true := he1.2 ex_ask
  have hx : (if true = true then textP (leafS qI iI) ([exP ib].map (·.c)) 0 else []) = [91, 91, 46, 46, 46, 93, 93] := ex_text
  rw [hx] at he2
  refine call1 he2 ?_
  (first | refine wX ?_ | exact wZ)
  rfl
end Go.Proofs.YtahjbnfbilkbcaaGreatDoor

/-
  Contracts: Is and Text (document); CoreTexts (law).
-/
namespace Go.Proofs.YtahjbnfbilkbcaaGreatDoor
open Go.AX Go.RowKit Go.Core Go.Scan
set_option maxRecDepth 20000

theorem small_as {l m : List CellP} (hs : Small l) (h : m.map (·.c) = l.map (·.c)) : Small m := by
  refine ⟨by have := congrArg List.length h; simp at this; have := hs.1; omega, fun p hp => ?_⟩
  have h1 : p.c ∈ l.map (·.c) := h ▸ List.mem_map_of_mem hp
  obtain ⟨q, hq, e⟩ := List.mem_map.1 h1
  rw [← e]
  exact hs.2 q hq
theorem RIs_c (a : Option Addr) (ca : Nat) (l : List CellP) (ha : a = none → l = []) (hl : l.length ≤ 200000000000000) (hok : ∀ p ∈ l, CellOk p) (u : Int) :
    ∀ H, (∀ w, Facts H w → GrF a l w) → ∃ b : Bool, (b = true ↔ AskP (l.map (·.c)) [u]) ∧ SpecH Tryz.prog 53 (pvs [.slice a l.length ca, .int .i64 u]) H (Ret (.bool b) H) := by
  intro H hH
  obtain ⟨b, hb⟩ : ∃ b : Bool, b = true ↔ AskP (l.map (·.c)) [u] := by
    by_cases h : AskP (l.map (·.c)) [u]
    · exact ⟨true, fun _ => h, fun _ => rfl⟩
    · exact ⟨false, (fun h => by cases h), fun h2 => absurd h2 h⟩
  refine ⟨b, hb, ?_⟩
  have hgl : (l.map (·.c)).length = l.length := by simp
  refine factC hm Tryz.func53 (by kernel_rfl) rfl rfl ?_ H hH
  (first | refine wX ?_ | exact wZ)
  obtain ⟨v, hv1, hv2⟩ := Valid_c a ca l ha hl hok [.fact (GrF a l)] (fun w hw => hw.1)
  refine call1 hv2 ?_
  cases v with
  | false =>
    (first | refine wX ?_ | exact wZ)
    exact out_bool (by
      cases b with
      | false => rfl
      | true => exact absurd (hv1.2 (hb.1 rfl).1) (by decide))
  | true =>
    (first | refine wX ?_ | exact wZ)
    refine brd_dec (fun h1 => ?_) (fun h1 => ?_)
    · (first | refine wX ?_ | exact wZ)
      refine out_bool ?_
      rw [Bool.eq_iff_iff, hb, decide_eq_true_eq]
      constructor
      · intro h
        exact ⟨hv1.1 rfl, fun x hx => by rw [List.mem_singleton.1 hx]; omega⟩
      · intro h
        have := h.2 u (by simp)
        omega
    · (first | refine wX ?_ | exact wZ)
      refine out_bool ?_
      cases b with
      | false => rfl
      | true => have := (hb.1 rfl).2 u (by simp); omega
end Go.Proofs.YtahjbnfbilkbcaaGreatDoor

/-
  Contracts: OneKey, Equal (document), OneKey (program); CoreEquals (law).
-/
namespace Go.Core
theorem ask2 {g : List Cell} {u v : Int} : AskP g [u, v] ↔ AskP g [u] ∧ AskP g [v] := by
  constructor
  · intro h
    exact ⟨⟨h.1, fun x hx => h.2 x (by rw [List.mem_singleton.1 hx]; simp)⟩, h.1, fun x hx => h.2 x (by rw [List.mem_singleton.1 hx]; simp)⟩
  · intro ⟨h1, h2⟩
    refine ⟨h1.1, fun x hx => ?_⟩
    rcases List.mem_cons.1 hx with rfl | hx
    · exact h1.2 x (by simp)
    · exact h2.2 x hx
/-- What OneKey tells of two cells. -/
def oneB (g : List Cell) (u v : Int) : Bool := decide (u = v) || oneKeyB (at_ g u) (at_ g v)
theorem leaf_plain {n : Nat} {c : Cell} (h : cellD n c = true) (hk : c.kind ≤ 5) : c.items = [] ∧ c.names = [] := by
  unfold cellD at h
  simp only [Bool.and_eq_true, Bool.not_eq_true', Bool.or_eq_false_iff, Bool.and_eq_false_iff, decide_eq_false_iff_not, Bool.not_eq_false', decide_eq_true_eq] at h
  have h1 := h.1.2
  refine ⟨h1.1.1.2.resolve_left (fun h => h hk), h1.1.2.resolve_left (by omega)⟩
/-- What is one key is Equal. -/
theorem one_same {g : List Cell} (hv : ValidP g) {u v : Int} (hu : 0 ≤ u ∧ u < (g.length : Int)) (hw : 0 ≤ v ∧ v < (g.length : Int)) (h : oneB g u v = true) : sameB g (u, v) = true := by
  refine (same_eqv (valid_in hv) ⟨hu, hw⟩ (Nat.lt_succ_self _)).2 ?_
  unfold oneB at h
  rcases Bool.or_eq_true _ _ ▸ h with h | h
  · rw [of_decide_eq_true h]
    exact eqv_refl _
  · unfold oneKeyB at h
    simp only [Bool.and_eq_true, beq_iff_eq] at h
    obtain ⟨⟨⟨h1, h2⟩, h3⟩, h4⟩ := h
    have hk : (at_ g u).kind ≤ 5 := of_decide_eq_true h1
    have hx := leaf_plain (hv.2.1 _ (at_mem hu)) hk
    have hy := leaf_plain (hv.2.1 _ (at_mem hw)) (by omega)
    refine eqv_leaf ?_ hx.1
    unfold ok alikeB
    simp [h2, h3, h4, hx.1, hx.2, hy.1, hy.2]
end Go.Core
namespace Go.Proofs.YtahjbnfbilkbcaaGreatDoor
open Go.AX Go.RowKit Go.Core
set_option maxRecDepth 20000

theorem ask_bool (g : List Cell) (cs : List Int) : ∃ b : Bool, b = true ↔ AskP g cs := by
  by_cases h : AskP g cs
  · exact ⟨true, fun _ => h, fun _ => rfl⟩
  · exact ⟨false, (fun h => by cases h), fun h2 => absurd h2 h⟩
theorem REqual_c {a : Option Addr} (ca : Nat) {l : List CellP} (ha : a = none → l = []) (hs : Small l) (hok : ∀ p ∈ l, CellOk p) (u v : Int) :
    ∀ H, (∀ w, Facts H w → GrF a l w) → ∃ e : Bool, (e = true ↔ AskP (l.map (·.c)) [u, v]) ∧ SpecH Tryz.prog 26 (pvs [.slice a l.length ca, .int .i64 u, .int .i64 v]) H (Ret (.tuple #[.bool (e && sameB (l.map (·.c)) (u, v)), errI e]) H) := by
  intro H hH
  -- both are cells of a valid graph; x: what is told if so
  obtain ⟨e, he⟩ := ask_bool (l.map (·.c)) [u, v]
  have hl := hs.1
  refine ⟨e, he, ?_⟩
  refine factC hm Tryz.func26 (by kernel_rfl) rfl rfl ?_ H hH
  (first | refine wX ?_ | exact wZ)
  -- x: the rest where both are asked
  obtain ⟨t, ht1, ht2⟩ := RIs_c a ca l ha (by omega) hok u [.fact (GrF a l)] (fun w hw => hw.1)
  obtain ⟨t2, ht3, ht4⟩ := RIs_c a ca l ha (by omega) hok v [.fact (GrF a l)] (fun w hw => hw.1)
  have hee : e = (t && t2) := by rw [Bool.eq_iff_iff, he, ask2, Bool.and_eq_true, ht1, ht3]
  refine call1 ht2 ?_
  cases t with
  | false =>
    subst hee
    (first | refine wX ?_ | exact wZ)
    rfl
  | true =>
  (first | refine wX ?_ | exact wZ)
  refine call1 ht4 ?_
  cases t2 with
  | false =>
    subst hee
    (first | refine wX ?_ | exact wZ)
    rfl
  | true =>
  obtain rfl : e = true := hee
  have hask := he.1 rfl
  have hu := hask.2 u (by simp)
  have hv := hask.2 v (by simp)
  have hgl : (l.map (·.c)).length = l.length := by simp
  obtain ⟨un, rfl⟩ : ∃ n : Nat, u = (n : Int) := ⟨u.toNat, by omega⟩
  obtain ⟨vn, rfl⟩ : ∃ n : Nat, v = (n : Int) := ⟨v.toNat, by omega⟩
  (first | refine wX ?_ | exact wZ)
  refine call1 (requal_c ca ha hs hok hask.1 un vn (by omega) (by omega) _ (fun w hw => hw.1)) ?_
  (first | refine wX ?_ | exact wZ)
  rfl
theorem ROneKey_c {a : Option Addr} (ca : Nat) {l : List CellP} (ha : a = none → l = []) (hs : Small l) (hok : ∀ p ∈ l, CellOk p) (u v : Int) :
    ∀ H, (∀ w, Facts H w → GrF a l w) → ∃ e : Bool, (e = true ↔ AskP (l.map (·.c)) [u, v]) ∧ SpecH Tryz.prog 28 (pvs [.slice a l.length ca, .int .i64 u, .int .i64 v]) H (Ret (.tuple #[.bool (e && oneB (l.map (·.c)) u v), errI e]) H) := by
  intro H hH
  -- both are cells of a valid graph; x: what is told if so
  obtain ⟨e, he⟩ := ask_bool (l.map (·.c)) [u, v]
  have hl := hs.1
  refine ⟨e, he, ?_⟩
  refine factC hm Tryz.func28 (by kernel_rfl) rfl rfl ?_ H hH
  (first | refine wX ?_ | exact wZ)
  -- x: the rest where both are asked
  obtain ⟨t, ht1, ht2⟩ := RIs_c a ca l ha (by omega) hok u [.fact (GrF a l)] (fun w hw => hw.1)
  obtain ⟨t2, ht3, ht4⟩ := RIs_c a ca l ha (by omega) hok v [.fact (GrF a l)] (fun w hw => hw.1)
  have hee : e = (t && t2) := by rw [Bool.eq_iff_iff, he, ask2, Bool.and_eq_true, ht1, ht3]
  refine call1 ht2 ?_
  cases t with
  | false =>
    subst hee
    (first | refine wX ?_ | exact wZ)
    rfl
  | true =>
  (first | refine wX ?_ | exact wZ)
  refine call1 ht4 ?_
  cases t2 with
  | false =>
    subst hee
    (first | refine wX ?_ | exact wZ)
    rfl
  | true =>
  obtain rfl : e = true := hee
  have hask := he.1 rfl
  have hu := hask.2 u (by simp)
  have hv := hask.2 v (by simp)
  have hgl : (l.map (·.c)).length = l.length := by simp
  obtain ⟨un, rfl⟩ : ∃ n : Nat, u = (n : Int) := ⟨u.toNat, by omega⟩
  obtain ⟨vn, rfl⟩ : ∃ n : Nat, v = (n : Int) := ⟨v.toNat, by omega⟩
  (first | refine wX ?_ | exact wZ)
  obtain ⟨p, hp⟩ : ∃ x, l[un]? = some x := ⟨_, List.getElem?_eq_getElem (by omega)⟩
  obtain ⟨q, hq⟩ : ∃ x, l[vn]? = some x := ⟨_, List.getElem?_eq_getElem (by omega)⟩
  have ho : oneB (l.map (·.c)) (un : Int) (vn : Int) = (decide ((un : Int) = vn) || oneKeyB p.c q.c) := by unfold oneB; rw [at_map hp, at_map hq]
  rw [ho]
  refine call1 (okey_c a ca l un vn p q hp hq ha (by omega) _ (fun w hw => hw.1)) ?_
  (first | refine wX ?_ | exact wZ)
  rfl
theorem OneKey_c {a : Option Addr} (ca : Nat) {l : List CellP} (ha : a = none → l = []) (hs : Small l) (hok : ∀ p ∈ l, CellOk p) (u v : Int) :
    ∀ H, (∀ w, Facts H w → GrF a l w) → ∃ e : Bool, (e = true ↔ AskP (l.map (·.c)) [u, v]) ∧ SpecH Tryz.prog 27 (pvs [.slice a l.length ca, .int .i64 u, .int .i64 v]) H (Ret (.tuple #[.bool (e && oneB (l.map (·.c)) u v), errI e]) H) := by
  intro H hH
  -- both are cells of a valid graph; x: what is told if so
  obtain ⟨e, he⟩ := ask_bool (l.map (·.c)) [u, v]
  have hl := hs.1
  refine ⟨e, he, ?_⟩
  refine factC hm Tryz.func27 (by kernel_rfl) rfl rfl ?_ H hH
  ((conv => whnf); (repeat ((first | refine BoxN.own ?_ | refine VrN.norm (wrap_i64 (by omega)) ?_ | refine VrN.keep ?_ | refine DrawN.calm (by decide +kernel) ?_ | refine Nd.mk (by decide +kernel) ?_ | refine Nd.mk (by omega) ?_ | (refine Nd.mk ?_ ?_; focus ((repeat' (first | exact trivial | exact wkE_refl _ | refine And.intro ?_ ?_)); done)) | refine RdN.intro _ rfl (by rfl) ?_); (conv => whnf))))
  refine RwN.known [.int .i64 u, .int .i64 v] rfl fun rb => ?_
  ((conv => whnf); (repeat ((first | refine BoxN.own ?_ | refine VrN.norm (wrap_i64 (by omega)) ?_ | refine VrN.keep ?_ | refine DrawN.calm (by decide +kernel) ?_ | refine Nd.mk (by decide +kernel) ?_ | refine Nd.mk (by omega) ?_ | (refine Nd.mk ?_ ?_; focus ((repeat' (first | exact trivial | exact wkE_refl _ | refine And.intro ?_ ?_)); done)) | refine RdN.intro _ rfl (by rfl) ?_); (conv => whnf))))
  obtain ⟨t, ht1, ht2⟩ := asked_c a ca l ha hs hok (some ⟨rb, 0, none⟩) 2 [u, v] (fun h => by cases h) (by simp) [.fact (GrF a l), .app 3 1 [.int .i64 u, .int .i64 v] (some ⟨rb, 0, none⟩) 2 2] (fun w hw => ⟨hw.1, hw.2.1⟩)
  obtain rfl : t = e := by rw [Bool.eq_iff_iff, ht1, he]
  refine call1 ht2 ?_
  cases t with
  | false =>
    (first | refine wX ?_ | exact wZ)
    rfl
  | true =>
    have hask := he.1 rfl
    have hu := hask.2 u (by simp)
    have hv := hask.2 v (by simp)
    have hgl : (l.map (·.c)).length = l.length := by simp
    obtain ⟨un, rfl⟩ : ∃ n : Nat, u = (n : Int) := ⟨u.toNat, by omega⟩
    obtain ⟨vn, rfl⟩ : ∃ n : Nat, v = (n : Int) := ⟨v.toNat, by omega⟩
    obtain ⟨p, hp⟩ : ∃ x, l[un]? = some x := ⟨_, List.getElem?_eq_getElem (by omega)⟩
    obtain ⟨q, hq⟩ : ∃ x, l[vn]? = some x := ⟨_, List.getElem?_eq_getElem (by omega)⟩
    have ho : oneB (l.map (·.c)) (un : Int) (vn : Int) = (decide ((un : Int) = vn) || oneKeyB p.c q.c) := by unfold oneB; rw [at_map hp, at_map hq]
    rw [ho]
    (first | refine wX ?_ | exact wZ)
    refine call1 (oneKey_c a ca l un vn p q hp hq ha (by omega) _ (fun w hw => hw.1)) ?_
    (first | refine wX ?_ | exact wZ)
    rfl
set_option maxHeartbeats 4000000 in
theorem CoreEquals_c (a : Option Addr) (ca : Nat) (l : List CellP) (ha : a = none → l = []) (hl : l.length ≤ 200000000000000) (hok : ∀ p ∈ l, CellOk p) (u v : Int) : ∀ H, (∀ w, Facts H w → GrF a l w) → SpecH Tryz.prog 7 (pvs [.slice a l.length ca, .int .i64 u, .int .i64 v]) H (Ret (.bool true) H) := by
  refine factC hm Tryz.func7 (by kernel_rfl) rfl rfl ?_
  (first | refine wX ?_ | exact wZ)
  refine call1 (large_c a ca l ha hl hok _ (fun w hw => hw.1)) ?_
  cases hlb : largeB l with
  | true =>
    (first | refine wX ?_ | exact wZ)
    refine call1 (sane_c _) ?_
    (first | refine wX ?_ | exact wZ)
  | false =>
    have hs := small_of hlb
    obtain ⟨e, he, hes⟩ := Equal_c ca ha hs hok u v [.fact (GrF a l)] (fun w hw => hw.1)
    obtain ⟨q1, hq1⟩ : ∃ q, (e && sameB (l.map (·.c)) (u, v)) = q := ⟨_, rfl⟩
    obtain ⟨q2, hq2⟩ : ∃ q, (e && oneB (l.map (·.c)) u v) = q := ⟨_, rfl⟩
    have h12 : q2 = true → q1 = true := by
      intro h
      rw [← hq2, Bool.and_eq_true] at h
      have hask := he.1 h.1
      rw [← hq1, h.1, one_same hask.1 (hask.2 u (by simp)) (hask.2 v (by simp)) h.2]
      rfl
    rw [hq1] at hes
    -- x, $2: what Equal and OneKey tell
    (first | refine wX ?_ | exact wZ)
    refine call1 hes ?_
    (first | refine wX ?_ | exact wZ)
    refine SpecF.call (as_c a ca l ha hs hok) (fun w hw => hw.1) fun v G hv => ?_
    obtain ⟨oa, oc, m, rfl, hoa, hmc, hmo, hG⟩ := hv
    have hml : m.length = l.length := by have := congrArg List.length hmc; simpa using this
    have hms : Small m := small_as hs hmc
    obtain ⟨e2, he2, hes2⟩ := REqual_c oc hoa hms hmo u v [.fact (GrF a l), .fact G] (fun w hw => hG w hw.2.1)
    rw [hmc] at he2 hes2
    obtain rfl : e2 = e := by rw [Bool.eq_iff_iff, he, he2]
    rw [hq1] at hes2
    (first | refine wX ?_ | exact wZ)
    refine call1 hes2 ?_
    obtain ⟨e3, he3, hes3⟩ := OneKey_c ca ha hs hok u v [.fact (GrF a l), .fact G] (fun w hw => hw.1)
    obtain rfl : e3 = e2 := by rw [Bool.eq_iff_iff, he, he3]
    rw [hq2] at hes3
    (first | refine wX ?_ | exact wZ)
    refine call1 hes3 ?_
    (first | refine wX ?_ | exact wZ)
    refine SpecF.call (as_c a ca l ha hs hok) (fun w hw => hw.1) fun v2 G2 hv2 => ?_
    obtain ⟨oa2, oc2, m2, rfl, hoa2, hmc2, hmo2, hG2⟩ := hv2
    have hms2 : Small m2 := small_as hs hmc2
    obtain ⟨e4, he4, hes4⟩ := ROneKey_c oc2 hoa2 hms2 hmo2 u v [.fact (GrF a l), .fact G, .fact G2] (fun w hw => hG2 w hw.2.2.1)
    rw [hmc2] at he4 hes4
    obtain rfl : e4 = e3 := by rw [Bool.eq_iff_iff, he, he4]
    rw [hq2] at hes4
    (first | refine wX ?_ | exact wZ)
    refine call1 hes4 ?_
    cases e4 with
    | false =>
      have hf1 : q1 = false := by rw [← hq1]; rfl
      have hf2 : q2 = false := by rw [← hq2]; rfl
      clear hq1 hq2
      subst hf1
      subst hf2
      (first | refine wX ?_ | exact wZ)
      refine call1 (sane_c _) ?_
      (first | refine wX ?_ | exact wZ)
    | true =>
    clear hq1 hq2
    cases q1 with
    | false =>
      cases q2 with
      | true => exact absurd (h12 rfl) (by decide)
      | false =>
        (first | refine wX ?_ | exact wZ)
        refine call1 (sane_c _) ?_
        (first | refine wX ?_ | exact wZ)
    | true =>
      cases q2 with
      | true =>
        (first | refine wX ?_ | exact wZ)
        refine call1 (sane_c _) ?_
        (first | refine wX ?_ | exact wZ)
      | false =>
        (first | refine wX ?_ | exact wZ)
        refine call1 (sane_c _) ?_
        (first | refine wX ?_ | exact wZ)
end Go.Proofs.YtahjbnfbilkbcaaGreatDoor

/-
  CoreEqualsCardSaid is proved: of every graph and two cells CoreEquals returns true and leaves its arguments as they were; the listed tables are tied to the program's text.
-/
namespace Go.Proofs.YtahjbnfbilkbcaaGreatDoor
open Go.ChangeShapes Go.WideShapes Go.ChangeAt Go.RowKit Go.AX Go.Core
set_option maxRecDepth 100000

namespace CoreEquals
theorem own : ownKnob Tryz.prog.godebug = none := own0
theorem walk {H : Type} {enc : TypeId × Value → H} (W : World) (base : Nat) (args : Array Value) (ds : List (DataW H)) (p : List MemPlace) (k : Known enc Tryz.prog Tryz.f7 W base args ds p) (_hL : laidMetH Tryz.prog laid3 W) : Walk Tryz.prog 7 args W := by
  obtain ⟨u, v, z, rfl⟩ := arr3 (trodAll_len k.trod).2
  obtain ⟨d, q, hd, h⟩ := trodAll_get k.trod 0 _ u rfl rfl
  obtain ⟨n, rfl⟩ := okWide_int Tryz.underlying3 (k.val 1 _ v rfl rfl)
  obtain ⟨n2, rfl⟩ := okWide_int Tryz.underlying3 (k.val 2 _ z rfl rfl)
  obtain ⟨a, l, cap, rfl, hl, hsl, ha, hQ⟩ := known_rows (e := 42) (m := 5) cellC (fun _ => rfl) Tryz.underlying22 (by kernel_rfl) (by decide +kernel) cell_read k.weights rfl hd (k.val 0 _ u rfl rfl) h
  exact walkH [.fact (GrF a l)] (fun _ he => ⟨_, List.mem_singleton.1 he, hsl.and (Imm.all fun x hx => (SlAt.imm (hQ x hx).2.1).and (SlAt.imm (hQ x hx).2.2))⟩)
    (CoreEquals_c a cap l ha hl (fun x hx => (hQ x hx).1) n n2 _ fun w hw => hw.1)

theorem lifted (os : Os) (started : os.Started) (H : Type) (enc : TypeId × Value → H) :
    ReturnsInHanded {} Tryz.checked os 7 .any (fun w args => (Rows.coreEqualsSpec.pre enc Tryz.prog Tryz.f7 [] false w args ∧ laidMetH Tryz.prog laid3 w) ∧ sizedMet enc Tryz.prog Tryz.f7 (OpenSpec.ofChange Rows.coreEqualsSpec) false w args) (Rows.coreEqualsSpec.post enc Tryz.prog Tryz.f7 false true false false) := by
  refine liftS (C := Tryz.checked) own started (by kernel_rfl) Tryz.func7
    (ChangeSpec.witness_shaped (enc := enc) (C := Tryz.checked) (os := os) (X := fun w _ => laidMetH Tryz.prog laid3 w) false (World.laidAll Tryz.prog os laid3) #[.slice none 0 0, .int .i64 0, .int .i64 0] 8 (World.laidAll_os _ _ _) (World.shaped_of_ZipB (by kernel_rfl) (by kernel_rfl)) (by kernel_rfl) (by kernel_rfl) (by kernel_rfl) (door_met os _))
    laidOut rfl (t := _) rfl (by kernel_rfl) (by kernel_rfl) ?_ walk
  intro ds hd
  match ds, hd with
  | [d0, d1, d2], _ => rfl

theorem over : Rows.coreEqualsRow.holds Tryz.pinned (OpenSpec.ofChange Rows.coreEqualsSpec) :=
  OpenClaim.holds_of_wide 7 Tryz.f7 rfl rfl rfl rfl rfl rfl rfl ⟨rfl, rfl, rfl, rfl, rfl⟩ rfl rfl rfl rfl rfl (by kernel_rfl) Tryz.func7 (by kernel_rfl)
    (of_decide_eq_true (by kernel_rfl)) (by unfold Func.isWrapper; first | (rw [if_pos (by decide +kernel)]; kernel_rfl) | (rw [if_neg (by decide +kernel)]; exact ⟨rfl, rfl⟩))
    (fun os started H enc _ => lifted os started H enc)

theorem proved : Rows.CoreEqualsCardSaid :=
  Claim7.holds_tied_plain_at .later [] [.data, .data, .data] true (true, "8c46145c91ca01cbbdc693332ca60911ae9d66bc5eabc04f89f5f042d1271d1b") true
    over (fun _ h => by cases h) (by kernel_rfl) (fun _ h => by cases h) coreEquals_row_tie rfl ⟨rfl, rfl⟩ (by kernel_rfl) rfl
    (fun f fn hf hfn => by
      obtain rfl : f = 7 := Option.some.inj ((show Tryz.prog.funcNamed "cabochon/cabochonlaw21.CoreEquals" = some 7 by kernel_rfl).symm.trans hf) |>.symm
      obtain rfl : fn = Tryz.f7 := (Option.some.inj (Tryz.func7.symm.trans hfn)).symm
      exact ⟨by kernel_rfl, fun j t ht => by
        have hm : t ∈ Tryz.f7.params.toList := by simpa using Array.mem_of_getElem? ht
        have hall : (Tryz.f7.params.toList.all fun u => !Tryz.prog.wantsStandIn u) = true := by kernel_rfl
        exact (show Tryz.prog.wantsStandIn t = false by simpa using List.all_eq_true.1 hall t hm)⟩)
    (by kernel_rfl)
#print axioms proved
end CoreEquals
end Go.Proofs.YtahjbnfbilkbcaaGreatDoor
