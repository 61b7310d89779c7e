/-
  Contract: the specification's reader of dates, walked.
-/
import Derived.Test.YtnecdpkmmncfaaaDoorF4
namespace Go.Proofs.YtnecdpkmmncfaaaDoor
open Go.AX Go.RowKit
set_option maxRecDepth 20000

theorem rParse_c (s : List UInt8) (hs : s.length ≤ 1000000000000000) : ∀ H, SpecH Tryd.prog 10 (pvs [.string (bs s)]) H (Ret (prs s) H) := by
  refine pureC hm Tryd.func10 (by kernel_rfl) rfl rfl ?_
  ((conv => whnf); (repeat ((first | refine VrN.norm (wrap_i64 (by omega)) ?_ | refine VrN.keep ?_ | refine DrawN.calm (by decide +kernel) ?_ | refine Nd.mk (by decide +kernel) ?_ | refine Nd.mk (by omega) ?_ | (refine Nd.mk ?_ ?_; focus ((repeat' (first | exact trivial | exact wkE_refl _ | refine And.intro ?_ ?_)); done)) | refine RdN.intro _ rfl (by rfl) ?_); (conv => whnf))))
  rw [bs_size]
  refine brd_dec (fun h0 => ?_) (fun h0 => ?_)
  · cases s with
    | nil => simp at h0
    | cons c l =>
      have hb0 : byteAt (bs (c :: l)) 0 = (c.toNat : Int) := byteAt_get rfl
      ((conv => whnf); (repeat ((first | refine VrN.norm (wrap_i64 (by omega)) ?_ | refine VrN.keep ?_ | refine DrawN.calm (by decide +kernel) ?_ | refine Nd.mk (by decide +kernel) ?_ | refine Nd.mk (by omega) ?_ | (refine Nd.mk ?_ ?_; focus ((repeat' (first | exact trivial | exact wkE_refl _ | refine And.intro ?_ ?_)); done)) | refine RdN.intro _ rfl (by rfl) ?_); (conv => whnf))))
      refine Nd.mk (by rw [bs_size]; omega) ?_
      rw [show ((0 : Int).toNat) = 0 from rfl, hb0]
      ((conv => whnf); (repeat ((first | refine VrN.norm (wrap_i64 (by omega)) ?_ | refine VrN.keep ?_ | refine DrawN.calm (by decide +kernel) ?_ | refine Nd.mk (by decide +kernel) ?_ | refine Nd.mk (by omega) ?_ | (refine Nd.mk ?_ ?_; focus ((repeat' (first | exact trivial | exact wkE_refl _ | refine And.intro ?_ ?_)); done)) | refine RdN.intro _ rfl (by rfl) ?_); (conv => whnf))))
      refine brd_eq (fun h1 => ?_) (fun h1 => ?_)
      · have hc : c = 45 := UInt8.toNat_inj.1 (by show c.toNat = 45; omega)
        subst hc
        have hN : neg (45 :: l) = true := by simp [neg, List.isPrefixOf]
        have hT : bareL (45 :: l) = l := by simp [bareL, hN]
        ((conv => whnf); (repeat ((first | refine VrN.norm (wrap_i64 (by omega)) ?_ | refine VrN.keep ?_ | refine DrawN.calm (by decide +kernel) ?_ | refine Nd.mk (by decide +kernel) ?_ | refine Nd.mk (by omega) ?_ | (refine Nd.mk ?_ ?_; focus ((repeat' (first | exact trivial | exact wkE_refl _ | refine And.intro ?_ ?_)); done)) | refine RdN.intro _ rfl (by rfl) ?_); (conv => whnf))))
        refine ReadW.str_l (b := bs (45 :: l)) rfl (by kernel_rfl) rfl rfl ⟨by omega, by rw [bs_size]; simp; omega⟩ ?_
        rw [bs_size, bs_ext, List.take_length, show List.drop (Int.toNat 1) (45 :: l) = l from rfl]
        ((conv => whnf); (repeat ((first | refine VrN.norm (wrap_i64 (by omega)) ?_ | refine VrN.keep ?_ | refine DrawN.calm (by decide +kernel) ?_ | refine Nd.mk (by decide +kernel) ?_ | refine Nd.mk (by omega) ?_ | (refine Nd.mk ?_ ?_; focus ((repeat' (first | exact trivial | exact wkE_refl _ | refine And.intro ?_ ?_)); done)) | refine RdN.intro _ rfl (by rfl) ?_); (conv => whnf))))
        rw [bs_size]
        refine brd_ne (fun h19 => ?_) (fun h19 => ?_)
        · have hbad : ¬ okS (45 :: l) := fun h => h19 (by have := form_len h.1; rw [hT] at this; omega)
          rw [prs_bad hbad]
          ((conv => whnf); (repeat ((first | refine VrN.norm (wrap_i64 (by omega)) ?_ | refine VrN.keep ?_ | refine DrawN.calm (by decide +kernel) ?_ | refine Nd.mk (by decide +kernel) ?_ | refine Nd.mk (by omega) ?_ | (refine Nd.mk ?_ ?_; focus ((repeat' (first | exact trivial | exact wkE_refl _ | refine And.intro ?_ ?_)); done)) | refine RdN.intro _ rfl (by rfl) ?_); (conv => whnf)))); rfl
        have hl19 : l.length = 19 := by omega
        ((conv => whnf); (repeat ((first | refine VrN.norm (wrap_i64 (by omega)) ?_ | refine VrN.keep ?_ | refine DrawN.calm (by decide +kernel) ?_ | refine Nd.mk (by decide +kernel) ?_ | refine Nd.mk (by omega) ?_ | (refine Nd.mk ?_ ?_; focus ((repeat' (first | exact trivial | exact wkE_refl _ | refine And.intro ?_ ?_)); done)) | refine RdN.intro _ rfl (by rfl) ?_); (conv => whnf)))); refine call1 (shape_c l (by omega) _) ?_
        ((conv => whnf); (repeat ((first | refine VrN.norm (wrap_i64 (by omega)) ?_ | refine VrN.keep ?_ | refine DrawN.calm (by decide +kernel) ?_ | refine Nd.mk (by decide +kernel) ?_ | refine Nd.mk (by omega) ?_ | (refine Nd.mk ?_ ?_; focus ((repeat' (first | exact trivial | exact wkE_refl _ | refine And.intro ?_ ?_)); done)) | refine RdN.intro _ rfl (by rfl) ?_); (conv => whnf))))
        refine brd_not (brd_intro (fun hf => ?_) (fun hf => ?_))
        · have hF : l.map sh = form := by have := beq_iff_eq.1 hf; rwa [bs_list] at this
          ((conv => whnf); (repeat ((first | refine VrN.norm (wrap_i64 (by omega)) ?_ | refine VrN.keep ?_ | refine DrawN.calm (by decide +kernel) ?_ | refine Nd.mk (by decide +kernel) ?_ | refine Nd.mk (by omega) ?_ | (refine Nd.mk ?_ ?_; focus ((repeat' (first | exact trivial | exact wkE_refl _ | refine And.intro ?_ ?_)); done)) | refine RdN.intro _ rfl (by rfl) ?_); (conv => whnf))))
          refine ReadW.str_h (b := bs l) rfl (by kernel_rfl) rfl rfl ⟨by omega, by rw [bs_size]; omega⟩ ?_
          rw [show ((4 : Int).toNat) = 4 from rfl, bs_ext, List.drop_zero]
          ((conv => whnf); (repeat ((first | refine VrN.norm (wrap_i64 (by omega)) ?_ | refine VrN.keep ?_ | refine DrawN.calm (by decide +kernel) ?_ | refine Nd.mk (by decide +kernel) ?_ | refine Nd.mk (by omega) ?_ | (refine Nd.mk ?_ ?_; focus ((repeat' (first | exact trivial | exact wkE_refl _ | refine And.intro ?_ ?_)); done)) | refine RdN.intro _ rfl (by rfl) ?_); (conv => whnf))))
          refine brd_intro (fun h4 => ?_) (fun h4 => ?_)
          · have hz : fld l 0 4 = 0 := (zero4 hF).2 (by have := beq_iff_eq.1 h4; rwa [bs_list] at this)
            rw [prs_bad (s := 45 :: l) fun h => h.2 ⟨hN, by rw [hT]; exact hz⟩]
            ((conv => whnf); (repeat ((first | refine VrN.norm (wrap_i64 (by omega)) ?_ | refine VrN.keep ?_ | refine DrawN.calm (by decide +kernel) ?_ | refine Nd.mk (by decide +kernel) ?_ | refine Nd.mk (by omega) ?_ | (refine Nd.mk ?_ ?_; focus ((repeat' (first | exact trivial | exact wkE_refl _ | refine And.intro ?_ ?_)); done)) | refine RdN.intro _ rfl (by rfl) ?_); (conv => whnf)))); rfl
          have hnz : ¬ (neg (45 :: l) = true ∧ fld (bareL (45 :: l)) 0 4 = 0) := fun h => by
            have h5 := (zero4 hF).1 (by rw [← hT]; exact h.2)
            rw [bs_list, h5] at h4
            exact absurd h4 (by decide)
          ((conv => whnf); (repeat ((refine VrN.keep ?_); (conv => whnf))))
          have hok : okS (45 :: l) := ⟨by rw [hT]; exact hF, hnz⟩
          obtain ⟨hfb, d1, d2, d3, d4, d5, d6⟩ := fld_bd hF
          have x1 : (bs l).extract (Int.toNat 0) (Int.toNat 4) = bs ((l.drop 0).take 4) := by rw [bs_ext, List.drop_take]; rfl
          have x2 : (bs l).extract (Int.toNat 5) (Int.toNat 7) = bs ((l.drop 5).take 2) := by rw [bs_ext, List.drop_take]; rfl
          have x3 : (bs l).extract (Int.toNat 8) (Int.toNat 10) = bs ((l.drop 8).take 2) := by rw [bs_ext, List.drop_take]; rfl
          have x4 : (bs l).extract (Int.toNat 11) (Int.toNat 13) = bs ((l.drop 11).take 2) := by rw [bs_ext, List.drop_take]; rfl
          have x5 : (bs l).extract (Int.toNat 14) (Int.toNat 16) = bs ((l.drop 14).take 2) := by rw [bs_ext, List.drop_take]; rfl
          have x6 : (bs l).extract (Int.toNat 17) (Int.toNat 19) = bs ((l.drop 17).take 2) := by rw [bs_ext, List.drop_take]; rfl
          refine DrawN.planQ [0, 1, 5, 8, 11, 14, 17] [2, 3, 4, 6, 7, 9, 10, 12, 13, 15, 16, 18, 19, 20] [(21, 2), (22, 0)] (by decide +kernel) ?_
          ((conv => whnf); (repeat ((first | refine VrN.norm (wrap_i64 (by omega)) ?_ | refine VrN.keep ?_ | refine DrawN.calm (by decide +kernel) ?_ | refine Nd.mk (by decide +kernel) ?_ | refine Nd.mk (by omega) ?_ | (refine Nd.mk ?_ ?_; focus ((repeat' (first | exact trivial | exact wkE_refl _ | refine And.intro ?_ ?_)); done)) | refine RdN.intro _ rfl (by rfl) ?_); (conv => whnf)))); refine ReadW.str_lh (b := bs l) rfl (by kernel_rfl) rfl rfl rfl ⟨by omega, by omega, by rw [bs_size]; omega⟩ ?_
          rw [x1]
          ((conv => whnf); (repeat ((first | refine VrN.norm (wrap_i64 (by omega)) ?_ | refine VrN.keep ?_ | refine DrawN.calm (by decide +kernel) ?_ | refine Nd.mk (by decide +kernel) ?_ | refine Nd.mk (by omega) ?_ | (refine Nd.mk ?_ ?_; focus ((repeat' (first | exact trivial | exact wkE_refl _ | refine And.intro ?_ ?_)); done)) | refine RdN.intro _ rfl (by rfl) ?_); (conv => whnf)))); refine callQ (read_c _ (by simp; omega) d1 _) ?_
          ((conv => whnf); (repeat ((first | refine VrN.norm (wrap_i64 (by omega)) ?_ | refine VrN.keep ?_ | refine DrawN.calm (by decide +kernel) ?_ | refine Nd.mk (by decide +kernel) ?_ | refine Nd.mk (by omega) ?_ | (refine Nd.mk ?_ ?_; focus ((repeat' (first | exact trivial | exact wkE_refl _ | refine And.intro ?_ ?_)); done)) | refine RdN.intro _ rfl (by rfl) ?_); (conv => whnf)))); refine ReadW.str_lh (b := bs l) rfl (by kernel_rfl) rfl rfl rfl ⟨by omega, by omega, by rw [bs_size]; omega⟩ ?_
          rw [x2]
          ((conv => whnf); (repeat ((first | refine VrN.norm (wrap_i64 (by omega)) ?_ | refine VrN.keep ?_ | refine DrawN.calm (by decide +kernel) ?_ | refine Nd.mk (by decide +kernel) ?_ | refine Nd.mk (by omega) ?_ | (refine Nd.mk ?_ ?_; focus ((repeat' (first | exact trivial | exact wkE_refl _ | refine And.intro ?_ ?_)); done)) | refine RdN.intro _ rfl (by rfl) ?_); (conv => whnf)))); refine callQ (read_c _ (by simp; omega) d2 _) ?_
          ((conv => whnf); (repeat ((first | refine VrN.norm (wrap_i64 (by omega)) ?_ | refine VrN.keep ?_ | refine DrawN.calm (by decide +kernel) ?_ | refine Nd.mk (by decide +kernel) ?_ | refine Nd.mk (by omega) ?_ | (refine Nd.mk ?_ ?_; focus ((repeat' (first | exact trivial | exact wkE_refl _ | refine And.intro ?_ ?_)); done)) | refine RdN.intro _ rfl (by rfl) ?_); (conv => whnf)))); refine ReadW.str_lh (b := bs l) rfl (by kernel_rfl) rfl rfl rfl ⟨by omega, by omega, by rw [bs_size]; omega⟩ ?_
          rw [x3]
          ((conv => whnf); (repeat ((first | refine VrN.norm (wrap_i64 (by omega)) ?_ | refine VrN.keep ?_ | refine DrawN.calm (by decide +kernel) ?_ | refine Nd.mk (by decide +kernel) ?_ | refine Nd.mk (by omega) ?_ | (refine Nd.mk ?_ ?_; focus ((repeat' (first | exact trivial | exact wkE_refl _ | refine And.intro ?_ ?_)); done)) | refine RdN.intro _ rfl (by rfl) ?_); (conv => whnf)))); refine callQ (read_c _ (by simp; omega) d3 _) ?_
          ((conv => whnf); (repeat ((first | refine VrN.norm (wrap_i64 (by omega)) ?_ | refine VrN.keep ?_ | refine DrawN.calm (by decide +kernel) ?_ | refine Nd.mk (by decide +kernel) ?_ | refine Nd.mk (by omega) ?_ | (refine Nd.mk ?_ ?_; focus ((repeat' (first | exact trivial | exact wkE_refl _ | refine And.intro ?_ ?_)); done)) | refine RdN.intro _ rfl (by rfl) ?_); (conv => whnf)))); refine ReadW.str_lh (b := bs l) rfl (by kernel_rfl) rfl rfl rfl ⟨by omega, by omega, by rw [bs_size]; omega⟩ ?_
          rw [x4]
          ((conv => whnf); (repeat ((first | refine VrN.norm (wrap_i64 (by omega)) ?_ | refine VrN.keep ?_ | refine DrawN.calm (by decide +kernel) ?_ | refine Nd.mk (by decide +kernel) ?_ | refine Nd.mk (by omega) ?_ | (refine Nd.mk ?_ ?_; focus ((repeat' (first | exact trivial | exact wkE_refl _ | refine And.intro ?_ ?_)); done)) | refine RdN.intro _ rfl (by rfl) ?_); (conv => whnf)))); refine callQ (read_c _ (by simp; omega) d4 _) ?_
          ((conv => whnf); (repeat ((first | refine VrN.norm (wrap_i64 (by omega)) ?_ | refine VrN.keep ?_ | refine DrawN.calm (by decide +kernel) ?_ | refine Nd.mk (by decide +kernel) ?_ | refine Nd.mk (by omega) ?_ | (refine Nd.mk ?_ ?_; focus ((repeat' (first | exact trivial | exact wkE_refl _ | refine And.intro ?_ ?_)); done)) | refine RdN.intro _ rfl (by rfl) ?_); (conv => whnf)))); refine ReadW.str_lh (b := bs l) rfl (by kernel_rfl) rfl rfl rfl ⟨by omega, by omega, by rw [bs_size]; omega⟩ ?_
          rw [x5]
          ((conv => whnf); (repeat ((first | refine VrN.norm (wrap_i64 (by omega)) ?_ | refine VrN.keep ?_ | refine DrawN.calm (by decide +kernel) ?_ | refine Nd.mk (by decide +kernel) ?_ | refine Nd.mk (by omega) ?_ | (refine Nd.mk ?_ ?_; focus ((repeat' (first | exact trivial | exact wkE_refl _ | refine And.intro ?_ ?_)); done)) | refine RdN.intro _ rfl (by rfl) ?_); (conv => whnf)))); refine callQ (read_c _ (by simp; omega) d5 _) ?_
          ((conv => whnf); (repeat ((first | refine VrN.norm (wrap_i64 (by omega)) ?_ | refine VrN.keep ?_ | refine DrawN.calm (by decide +kernel) ?_ | refine Nd.mk (by decide +kernel) ?_ | refine Nd.mk (by omega) ?_ | (refine Nd.mk ?_ ?_; focus ((repeat' (first | exact trivial | exact wkE_refl _ | refine And.intro ?_ ?_)); done)) | refine RdN.intro _ rfl (by rfl) ?_); (conv => whnf)))); refine ReadW.str_lh (b := bs l) rfl (by kernel_rfl) rfl rfl rfl ⟨by omega, by omega, by rw [bs_size]; omega⟩ ?_
          rw [x6]
          ((conv => whnf); (repeat ((first | refine VrN.norm (wrap_i64 (by omega)) ?_ | refine VrN.keep ?_ | refine DrawN.calm (by decide +kernel) ?_ | refine Nd.mk (by decide +kernel) ?_ | refine Nd.mk (by omega) ?_ | (refine Nd.mk ?_ ?_; focus ((repeat' (first | exact trivial | exact wkE_refl _ | refine And.intro ?_ ?_)); done)) | refine RdN.intro _ rfl (by rfl) ?_); (conv => whnf)))); refine callQ (read_c _ (by simp; omega) d6 _) ?_
          ((conv => whnf); (repeat ((refine VrN.keep ?_); (conv => whnf))))
          have hy : IntKind.wrap .i64 (-1 * num (List.take 4 (List.drop 0 l))) = yr (45 :: l) := by
            have hfb' : 0 ≤ num (List.take 4 (List.drop 0 l)) ∧ num (List.take 4 (List.drop 0 l)) < 10000 := hfb
            rw [wrap_i64 (by omega)]
            unfold yr
            rw [hN, hT, if_pos rfl]
            unfold fld
            omega
          have hvv : valS (45 :: l) = Cal.validB (yr (45 :: l)) (fld l 5 2) (fld l 8 2) (fld l 11 2) (fld l 14 2) (fld l 17 2) := by unfold valS; rw [hT]
          rw [hy]
          refine call1 (rvalid_c (yr (45 :: l)) (fld l 5 2) (fld l 8 2) (fld l 11 2) (fld l 14 2) (fld l 17 2) _) ?_
          rw [← hvv]
          ((conv => whnf); (repeat ((first | refine VrN.norm (wrap_i64 (by omega)) ?_ | refine VrN.keep ?_ | refine DrawN.calm (by decide +kernel) ?_ | refine Nd.mk (by decide +kernel) ?_ | refine Nd.mk (by omega) ?_ | (refine Nd.mk ?_ ?_; focus ((repeat' (first | exact trivial | exact wkE_refl _ | refine And.intro ?_ ?_)); done)) | refine RdN.intro _ rfl (by rfl) ?_); (conv => whnf))))
          refine brd_not (brd_intro (fun hv => ?_) (fun hv => ?_))
          · rw [prs_good hok hv, dtS, hT]
            ((conv => whnf); (repeat ((first | refine VrN.norm (wrap_i64 (by omega)) ?_ | refine VrN.keep ?_ | refine DrawN.calm (by decide +kernel) ?_ | refine Nd.mk (by decide +kernel) ?_ | refine Nd.mk (by omega) ?_ | (refine Nd.mk ?_ ?_; focus ((repeat' (first | exact trivial | exact wkE_refl _ | refine And.intro ?_ ?_)); done)) | refine RdN.intro _ rfl (by rfl) ?_); (conv => whnf)))); rfl
          · rw [prs_arg hok (by simp [hv])]
            ((conv => whnf); (repeat ((first | refine VrN.norm (wrap_i64 (by omega)) ?_ | refine VrN.keep ?_ | refine DrawN.calm (by decide +kernel) ?_ | refine Nd.mk (by decide +kernel) ?_ | refine Nd.mk (by omega) ?_ | (refine Nd.mk ?_ ?_; focus ((repeat' (first | exact trivial | exact wkE_refl _ | refine And.intro ?_ ?_)); done)) | refine RdN.intro _ rfl (by rfl) ?_); (conv => whnf)))); rfl
        · have hbad : ¬ okS (45 :: l) := fun h => by
            have hF := h.1
            rw [hT] at hF
            rw [bs_list, hF] at hf
            exact absurd hf (by decide)
          rw [prs_bad hbad]
          ((conv => whnf); (repeat ((first | refine VrN.norm (wrap_i64 (by omega)) ?_ | refine VrN.keep ?_ | refine DrawN.calm (by decide +kernel) ?_ | refine Nd.mk (by decide +kernel) ?_ | refine Nd.mk (by omega) ?_ | (refine Nd.mk ?_ ?_; focus ((repeat' (first | exact trivial | exact wkE_refl _ | refine And.intro ?_ ?_)); done)) | refine RdN.intro _ rfl (by rfl) ?_); (conv => whnf)))); rfl
      · have hN : neg (c :: l) = false := by
          simp [neg, List.isPrefixOf]
          rintro rfl; exact h1 (by decide)
        have hT : bareL (c :: l) = c :: l := by simp [bareL, hN]
        ((conv => whnf); (repeat ((first | refine VrN.norm (wrap_i64 (by omega)) ?_ | refine VrN.keep ?_ | refine DrawN.calm (by decide +kernel) ?_ | refine Nd.mk (by decide +kernel) ?_ | refine Nd.mk (by omega) ?_ | (refine Nd.mk ?_ ?_; focus ((repeat' (first | exact trivial | exact wkE_refl _ | refine And.intro ?_ ?_)); done)) | refine RdN.intro _ rfl (by rfl) ?_); (conv => whnf))))
        rw [bs_size]
        refine brd_ne (fun h19 => ?_) (fun h19 => ?_)
        · have hbad : ¬ okS (c :: l) := fun h => h19 (by have := form_len h.1; rw [hT] at this; omega)
          rw [prs_bad hbad]
          ((conv => whnf); (repeat ((first | refine VrN.norm (wrap_i64 (by omega)) ?_ | refine VrN.keep ?_ | refine DrawN.calm (by decide +kernel) ?_ | refine Nd.mk (by decide +kernel) ?_ | refine Nd.mk (by omega) ?_ | (refine Nd.mk ?_ ?_; focus ((repeat' (first | exact trivial | exact wkE_refl _ | refine And.intro ?_ ?_)); done)) | refine RdN.intro _ rfl (by rfl) ?_); (conv => whnf)))); rfl
        have hl19 : (c :: l).length = 19 := by omega
        ((conv => whnf); (repeat ((first | refine VrN.norm (wrap_i64 (by omega)) ?_ | refine VrN.keep ?_ | refine DrawN.calm (by decide +kernel) ?_ | refine Nd.mk (by decide +kernel) ?_ | refine Nd.mk (by omega) ?_ | (refine Nd.mk ?_ ?_; focus ((repeat' (first | exact trivial | exact wkE_refl _ | refine And.intro ?_ ?_)); done)) | refine RdN.intro _ rfl (by rfl) ?_); (conv => whnf)))); refine call1 (shape_c (c :: l) (by omega) _) ?_
        ((conv => whnf); (repeat ((first | refine VrN.norm (wrap_i64 (by omega)) ?_ | refine VrN.keep ?_ | refine DrawN.calm (by decide +kernel) ?_ | refine Nd.mk (by decide +kernel) ?_ | refine Nd.mk (by omega) ?_ | (refine Nd.mk ?_ ?_; focus ((repeat' (first | exact trivial | exact wkE_refl _ | refine And.intro ?_ ?_)); done)) | refine RdN.intro _ rfl (by rfl) ?_); (conv => whnf))))
        refine brd_not (brd_intro (fun hf => ?_) (fun hf => ?_))
        · have hF : (c :: l).map sh = form := by have := beq_iff_eq.1 hf; rwa [bs_list] at this
          ((conv => whnf); (repeat ((first | refine VrN.norm (wrap_i64 (by omega)) ?_ | refine VrN.keep ?_ | refine DrawN.calm (by decide +kernel) ?_ | refine Nd.mk (by decide +kernel) ?_ | refine Nd.mk (by omega) ?_ | (refine Nd.mk ?_ ?_; focus ((repeat' (first | exact trivial | exact wkE_refl _ | refine And.intro ?_ ?_)); done)) | refine RdN.intro _ rfl (by rfl) ?_); (conv => whnf))))
          have hnz : ¬ (neg (c :: l) = true ∧ fld (bareL (c :: l)) 0 4 = 0) := fun h => by rw [hN] at h; exact absurd h.1 (by decide)
          have hok : okS (c :: l) := ⟨by rw [hT]; exact hF, hnz⟩
          obtain ⟨hfb, d1, d2, d3, d4, d5, d6⟩ := fld_bd hF
          have x1 : (bs (c :: l)).extract (Int.toNat 0) (Int.toNat 4) = bs (((c :: l).drop 0).take 4) := by rw [bs_ext, List.drop_take]; rfl
          have x2 : (bs (c :: l)).extract (Int.toNat 5) (Int.toNat 7) = bs (((c :: l).drop 5).take 2) := by rw [bs_ext, List.drop_take]; rfl
          have x3 : (bs (c :: l)).extract (Int.toNat 8) (Int.toNat 10) = bs (((c :: l).drop 8).take 2) := by rw [bs_ext, List.drop_take]; rfl
          have x4 : (bs (c :: l)).extract (Int.toNat 11) (Int.toNat 13) = bs (((c :: l).drop 11).take 2) := by rw [bs_ext, List.drop_take]; rfl
          have x5 : (bs (c :: l)).extract (Int.toNat 14) (Int.toNat 16) = bs (((c :: l).drop 14).take 2) := by rw [bs_ext, List.drop_take]; rfl
          have x6 : (bs (c :: l)).extract (Int.toNat 17) (Int.toNat 19) = bs (((c :: l).drop 17).take 2) := by rw [bs_ext, List.drop_take]; rfl
          refine DrawN.planQ [0, 1, 5, 8, 11, 14, 17] [2, 3, 4, 6, 7, 9, 10, 12, 13, 15, 16, 18, 19, 20] [(21, 2), (22, 0)] (by decide +kernel) ?_
          ((conv => whnf); (repeat ((first | refine VrN.norm (wrap_i64 (by omega)) ?_ | refine VrN.keep ?_ | refine DrawN.calm (by decide +kernel) ?_ | refine Nd.mk (by decide +kernel) ?_ | refine Nd.mk (by omega) ?_ | (refine Nd.mk ?_ ?_; focus ((repeat' (first | exact trivial | exact wkE_refl _ | refine And.intro ?_ ?_)); done)) | refine RdN.intro _ rfl (by rfl) ?_); (conv => whnf)))); refine ReadW.str_lh (b := bs (c :: l)) rfl (by kernel_rfl) rfl rfl rfl ⟨by omega, by omega, by rw [bs_size]; omega⟩ ?_
          rw [x1]
          ((conv => whnf); (repeat ((first | refine VrN.norm (wrap_i64 (by omega)) ?_ | refine VrN.keep ?_ | refine DrawN.calm (by decide +kernel) ?_ | refine Nd.mk (by decide +kernel) ?_ | refine Nd.mk (by omega) ?_ | (refine Nd.mk ?_ ?_; focus ((repeat' (first | exact trivial | exact wkE_refl _ | refine And.intro ?_ ?_)); done)) | refine RdN.intro _ rfl (by rfl) ?_); (conv => whnf)))); refine callQ (read_c _ (by simp; omega) d1 _) ?_
          ((conv => whnf); (repeat ((first | refine VrN.norm (wrap_i64 (by omega)) ?_ | refine VrN.keep ?_ | refine DrawN.calm (by decide +kernel) ?_ | refine Nd.mk (by decide +kernel) ?_ | refine Nd.mk (by omega) ?_ | (refine Nd.mk ?_ ?_; focus ((repeat' (first | exact trivial | exact wkE_refl _ | refine And.intro ?_ ?_)); done)) | refine RdN.intro _ rfl (by rfl) ?_); (conv => whnf)))); refine ReadW.str_lh (b := bs (c :: l)) rfl (by kernel_rfl) rfl rfl rfl ⟨by omega, by omega, by rw [bs_size]; omega⟩ ?_
          rw [x2]
          ((conv => whnf); (repeat ((first | refine VrN.norm (wrap_i64 (by omega)) ?_ | refine VrN.keep ?_ | refine DrawN.calm (by decide +kernel) ?_ | refine Nd.mk (by decide +kernel) ?_ | refine Nd.mk (by omega) ?_ | (refine Nd.mk ?_ ?_; focus ((repeat' (first | exact trivial | exact wkE_refl _ | refine And.intro ?_ ?_)); done)) | refine RdN.intro _ rfl (by rfl) ?_); (conv => whnf)))); refine callQ (read_c _ (by simp; omega) d2 _) ?_
          ((conv => whnf); (repeat ((first | refine VrN.norm (wrap_i64 (by omega)) ?_ | refine VrN.keep ?_ | refine DrawN.calm (by decide +kernel) ?_ | refine Nd.mk (by decide +kernel) ?_ | refine Nd.mk (by omega) ?_ | (refine Nd.mk ?_ ?_; focus ((repeat' (first | exact trivial | exact wkE_refl _ | refine And.intro ?_ ?_)); done)) | refine RdN.intro _ rfl (by rfl) ?_); (conv => whnf)))); refine ReadW.str_lh (b := bs (c :: l)) rfl (by kernel_rfl) rfl rfl rfl ⟨by omega, by omega, by rw [bs_size]; omega⟩ ?_
          rw [x3]
          ((conv => whnf); (repeat ((first | refine VrN.norm (wrap_i64 (by omega)) ?_ | refine VrN.keep ?_ | refine DrawN.calm (by decide +kernel) ?_ | refine Nd.mk (by decide +kernel) ?_ | refine Nd.mk (by omega) ?_ | (refine Nd.mk ?_ ?_; focus ((repeat' (first | exact trivial | exact wkE_refl _ | refine And.intro ?_ ?_)); done)) | refine RdN.intro _ rfl (by rfl) ?_); (conv => whnf)))); refine callQ (read_c _ (by simp; omega) d3 _) ?_
          ((conv => whnf); (repeat ((first | refine VrN.norm (wrap_i64 (by omega)) ?_ | refine VrN.keep ?_ | refine DrawN.calm (by decide +kernel) ?_ | refine Nd.mk (by decide +kernel) ?_ | refine Nd.mk (by omega) ?_ | (refine Nd.mk ?_ ?_; focus ((repeat' (first | exact trivial | exact wkE_refl _ | refine And.intro ?_ ?_)); done)) | refine RdN.intro _ rfl (by rfl) ?_); (conv => whnf)))); refine ReadW.str_lh (b := bs (c :: l)) rfl (by kernel_rfl) rfl rfl rfl ⟨by omega, by omega, by rw [bs_size]; omega⟩ ?_
          rw [x4]
          ((conv => whnf); (repeat ((first | refine VrN.norm (wrap_i64 (by omega)) ?_ | refine VrN.keep ?_ | refine DrawN.calm (by decide +kernel) ?_ | refine Nd.mk (by decide +kernel) ?_ | refine Nd.mk (by omega) ?_ | (refine Nd.mk ?_ ?_; focus ((repeat' (first | exact trivial | exact wkE_refl _ | refine And.intro ?_ ?_)); done)) | refine RdN.intro _ rfl (by rfl) ?_); (conv => whnf)))); refine callQ (read_c _ (by simp; omega) d4 _) ?_
          ((conv => whnf); (repeat ((first | refine VrN.norm (wrap_i64 (by omega)) ?_ | refine VrN.keep ?_ | refine DrawN.calm (by decide +kernel) ?_ | refine Nd.mk (by decide +kernel) ?_ | refine Nd.mk (by omega) ?_ | (refine Nd.mk ?_ ?_; focus ((repeat' (first | exact trivial | exact wkE_refl _ | refine And.intro ?_ ?_)); done)) | refine RdN.intro _ rfl (by rfl) ?_); (conv => whnf)))); refine ReadW.str_lh (b := bs (c :: l)) rfl (by kernel_rfl) rfl rfl rfl ⟨by omega, by omega, by rw [bs_size]; omega⟩ ?_
          rw [x5]
          ((conv => whnf); (repeat ((first | refine VrN.norm (wrap_i64 (by omega)) ?_ | refine VrN.keep ?_ | refine DrawN.calm (by decide +kernel) ?_ | refine Nd.mk (by decide +kernel) ?_ | refine Nd.mk (by omega) ?_ | (refine Nd.mk ?_ ?_; focus ((repeat' (first | exact trivial | exact wkE_refl _ | refine And.intro ?_ ?_)); done)) | refine RdN.intro _ rfl (by rfl) ?_); (conv => whnf)))); refine callQ (read_c _ (by simp; omega) d5 _) ?_
          ((conv => whnf); (repeat ((first | refine VrN.norm (wrap_i64 (by omega)) ?_ | refine VrN.keep ?_ | refine DrawN.calm (by decide +kernel) ?_ | refine Nd.mk (by decide +kernel) ?_ | refine Nd.mk (by omega) ?_ | (refine Nd.mk ?_ ?_; focus ((repeat' (first | exact trivial | exact wkE_refl _ | refine And.intro ?_ ?_)); done)) | refine RdN.intro _ rfl (by rfl) ?_); (conv => whnf)))); refine ReadW.str_lh (b := bs (c :: l)) rfl (by kernel_rfl) rfl rfl rfl ⟨by omega, by omega, by rw [bs_size]; omega⟩ ?_
          rw [x6]
          ((conv => whnf); (repeat ((first | refine VrN.norm (wrap_i64 (by omega)) ?_ | refine VrN.keep ?_ | refine DrawN.calm (by decide +kernel) ?_ | refine Nd.mk (by decide +kernel) ?_ | refine Nd.mk (by omega) ?_ | (refine Nd.mk ?_ ?_; focus ((repeat' (first | exact trivial | exact wkE_refl _ | refine And.intro ?_ ?_)); done)) | refine RdN.intro _ rfl (by rfl) ?_); (conv => whnf)))); refine callQ (read_c _ (by simp; omega) d6 _) ?_
          ((conv => whnf); (repeat ((refine VrN.keep ?_); (conv => whnf))))
          have hy : IntKind.wrap .i64 (1 * num (List.take 4 (List.drop 0 (c :: l)))) = yr (c :: l) := by
            have hfb' : 0 ≤ num (List.take 4 (List.drop 0 (c :: l))) ∧ num (List.take 4 (List.drop 0 (c :: l))) < 10000 := hfb
            rw [wrap_i64 (by omega)]
            unfold yr
            rw [hN, hT, if_neg (by decide)]
            unfold fld
            omega
          have hvv : valS (c :: l) = Cal.validB (yr (c :: l)) (fld (c :: l) 5 2) (fld (c :: l) 8 2) (fld (c :: l) 11 2) (fld (c :: l) 14 2) (fld (c :: l) 17 2) := by unfold valS; rw [hT]
          rw [hy]
          refine call1 (rvalid_c (yr (c :: l)) (fld (c :: l) 5 2) (fld (c :: l) 8 2) (fld (c :: l) 11 2) (fld (c :: l) 14 2) (fld (c :: l) 17 2) _) ?_
          rw [← hvv]
          ((conv => whnf); (repeat ((first | refine VrN.norm (wrap_i64 (by omega)) ?_ | refine VrN.keep ?_ | refine DrawN.calm (by decide +kernel) ?_ | refine Nd.mk (by decide +kernel) ?_ | refine Nd.mk (by omega) ?_ | (refine Nd.mk ?_ ?_; focus ((repeat' (first | exact trivial | exact wkE_refl _ | refine And.intro ?_ ?_)); done)) | refine RdN.intro _ rfl (by rfl) ?_); (conv => whnf))))
          refine brd_not (brd_intro (fun hv => ?_) (fun hv => ?_))
          · rw [prs_good hok hv, dtS, hT]
            ((conv => whnf); (repeat ((first | refine VrN.norm (wrap_i64 (by omega)) ?_ | refine VrN.keep ?_ | refine DrawN.calm (by decide +kernel) ?_ | refine Nd.mk (by decide +kernel) ?_ | refine Nd.mk (by omega) ?_ | (refine Nd.mk ?_ ?_; focus ((repeat' (first | exact trivial | exact wkE_refl _ | refine And.intro ?_ ?_)); done)) | refine RdN.intro _ rfl (by rfl) ?_); (conv => whnf)))); rfl
          · rw [prs_arg hok (by simp [hv])]
            ((conv => whnf); (repeat ((first | refine VrN.norm (wrap_i64 (by omega)) ?_ | refine VrN.keep ?_ | refine DrawN.calm (by decide +kernel) ?_ | refine Nd.mk (by decide +kernel) ?_ | refine Nd.mk (by omega) ?_ | (refine Nd.mk ?_ ?_; focus ((repeat' (first | exact trivial | exact wkE_refl _ | refine And.intro ?_ ?_)); done)) | refine RdN.intro _ rfl (by rfl) ?_); (conv => whnf)))); rfl
        · have hbad : ¬ okS (c :: l) := fun h => by
            have hF := h.1
            rw [hT] at hF
            rw [bs_list, hF] at hf
            exact absurd hf (by decide)
          rw [prs_bad hbad]
          ((conv => whnf); (repeat ((first | refine VrN.norm (wrap_i64 (by omega)) ?_ | refine VrN.keep ?_ | refine DrawN.calm (by decide +kernel) ?_ | refine Nd.mk (by decide +kernel) ?_ | refine Nd.mk (by omega) ?_ | (refine Nd.mk ?_ ?_; focus ((repeat' (first | exact trivial | exact wkE_refl _ | refine And.intro ?_ ?_)); done)) | refine RdN.intro _ rfl (by rfl) ?_); (conv => whnf)))); rfl
  · have hs0 : s = [] := by
      cases s with
      | nil => rfl
      | cons c l => simp at h0
    subst hs0
    have hT : bareL [] = [] := rfl
    have hbad : ¬ okS [] := fun h => by have := form_len h.1; rw [hT] at this; cases this
    rw [prs_bad hbad]
    ((conv => whnf); (repeat ((first | refine VrN.norm (wrap_i64 (by omega)) ?_ | refine VrN.keep ?_ | refine DrawN.calm (by decide +kernel) ?_ | refine Nd.mk (by decide +kernel) ?_ | refine Nd.mk (by omega) ?_ | (refine Nd.mk ?_ ?_; focus ((repeat' (first | exact trivial | exact wkE_refl _ | refine And.intro ?_ ?_)); done)) | refine RdN.intro _ rfl (by rfl) ?_); (conv => whnf)))); rfl
end Go.Proofs.YtnecdpkmmncfaaaDoor
