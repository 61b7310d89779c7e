/-
  Contract: the law ErbLong.
-/
import Derived.Test.YtfcjgklghgpddaaGreatDoorG12
import Derived.Test.YtfcjgklghgpddaaGreatDoorAx25
namespace Go.Proofs.YtfcjgklghgpddaaGreatDoor
open Go.AX Go.RowKit Go.Erb
set_option maxRecDepth 20000

theorem isName_nil : ∀ H, SpecH Tryz.prog 18 (pvs [.string ⟨#[]⟩]) H (Ret (.bool false) H) := by
  refine pureC hm Tryz.func18 (by kernel_rfl) rfl rfl ?_
  ((conv => whnf); (repeat ((first | refine VrN.norm (wrap_i64 (by omega)) ?_ | refine VrN.keep ?_ | refine DrawN.calm (by decide +kernel) ?_ | refine Nd.mk (by decide +kernel) ?_ | refine Nd.mk (by omega) ?_ | (refine Nd.mk ?_ ?_; focus ((repeat' (first | exact trivial | exact wkE_refl _ | refine And.intro ?_ ?_)); done)) | refine RdN.intro _ rfl (by rfl) ?_); (conv => whnf))))
theorem Program_nil (s : List UInt8) : ∀ H, SpecH Tryz.prog 9 (pvs [.string (bs s), .string ⟨#[]⟩, .bool false]) H (Ret (.tuple #[.string ⟨#[]⟩, .int .i64 0, .int .i64 1]) H) := by
  refine pureC hm Tryz.func9 (by kernel_rfl) rfl rfl ?_
  ((conv => whnf); (repeat ((first | refine VrN.norm (wrap_i64 (by omega)) ?_ | refine VrN.keep ?_ | refine DrawN.calm (by decide +kernel) ?_ | refine Nd.mk (by decide +kernel) ?_ | refine Nd.mk (by omega) ?_ | (refine Nd.mk ?_ ?_; focus ((repeat' (first | exact trivial | exact wkE_refl _ | refine And.intro ?_ ?_)); done)) | refine RdN.intro _ rfl (by rfl) ?_); (conv => whnf)))); refine call1 (isName_nil _) ?_
  ((conv => whnf); (repeat ((first | refine VrN.norm (wrap_i64 (by omega)) ?_ | refine VrN.keep ?_ | refine DrawN.calm (by decide +kernel) ?_ | refine Nd.mk (by decide +kernel) ?_ | refine Nd.mk (by omega) ?_ | (refine Nd.mk ?_ ?_; focus ((repeat' (first | exact trivial | exact wkE_refl _ | refine And.intro ?_ ?_)); done)) | refine RdN.intro _ rfl (by rfl) ?_); (conv => whnf))))
theorem rd_zero (lines : Bool) : ∀ (n : Nat) (pre t fp : List UInt8) (out : List Part), ∃ l, rdN lines pre (List.replicate n 0) t fp out = .ok l
  | 0, pre, t, fp, out => ⟨_, rdN_nil lines pre t fp out⟩
  | n + 1, pre, t, fp, out => by
    obtain ⟨l, h⟩ := rd_zero lines n (pre ++ [0]) (t ++ [0]) (fpOf t fp pre) out
    refine ⟨l, ?_⟩
    rw [List.replicate_succ, rdN_cons]
    simpa [List.isPrefixOf] using h
theorem parts_zero (lines : Bool) (n : Nat) : (parts (List.replicate n 0) lines).2.2 = if n > 50000 then 2 else 0 := by
  by_cases h : n > 50000
  · rw [if_pos h]
    unfold parts
    rw [if_pos (by simpa using h)]
  · rw [if_neg h, parts_ok _ _ (by simp; omega)]
    obtain ⟨l, hl⟩ := rd_zero lines n [] [] [] []
    rw [hl]
theorem plainP_snd (s : List UInt8) (lines : Bool) : (plainP s lines).2 = (parts s lines).2.2 := by
  unfold plainP
  split
  · rename_i h; rw [h]
  · rfl
theorem size_of (n : Int) : ∃ N : Nat, IntKind.wrap .i64 (49998 + IntKind.wrap .i64 ((IntKind.wrap .u64 n).tmod 5)) = (N : Int) ∧ N ≤ 60000 := by
  have h : 0 ≤ IntKind.wrap .u64 n := by rw [IntKind.wrap_u64]; omega
  have h1 : 0 ≤ (IntKind.wrap .u64 n).tmod 5 ∧ (IntKind.wrap .u64 n).tmod 5 < 5 := ⟨Int.tmod_nonneg _ h, Int.tmod_lt_of_pos _ (by omega)⟩
  refine ⟨(49998 + (IntKind.wrap .u64 n).tmod 5).toNat, ?_, by omega⟩
  rw [wrap_i64 (x := (IntKind.wrap .u64 n).tmod 5) (by omega), wrap_i64 (by omega)]
  omega
theorem ErbLong_c (n : Int) : ∀ H, (∀ w, Facts H w → MaxF w) → SpecH Tryz.prog 3 (pvs [.int .i64 n]) H (Ret (.bool true) H) := by
  refine factC hm Tryz.func3 (by kernel_rfl) rfl rfl ?_
  obtain ⟨N, hN, hb⟩ := size_of n
  ((conv => whnf); (repeat ((first | refine VrN.norm (wrap_i64 (by omega)) ?_ | refine VrN.keep ?_ | refine DrawN.calm (by decide +kernel) ?_ | refine Nd.mk (by decide +kernel) ?_ | refine Nd.mk (by omega) ?_ | (refine Nd.mk ?_ ?_; focus ((repeat' (first | exact trivial | exact wkE_refl _ | refine And.intro ?_ ?_)); done)) | refine RdN.intro _ rfl (by rfl) ?_); (conv => whnf))))
  rw [hN]
  refine EffW.mkBytes (e := 5) N rfl (by kernel_rfl) (by kernel_rfl) rfl rfl (by omega) fun b => ?_
  have hZ : ∀ w, SlAt (some ⟨b, 0, none⟩) (N * 1) (List.replicate N (.int .u8 0)) w → SlAt (some ⟨b, 0, none⟩) N (u8s (List.replicate N 0)) w := fun w h => by
    rw [Nat.mul_one] at h
    simpa [u8s] using h
  ((conv => whnf); (repeat ((first | refine VrN.norm (wrap_i64 (by omega)) ?_ | refine VrN.keep ?_ | refine DrawN.calm (by decide +kernel) ?_ | refine Nd.mk (by decide +kernel) ?_ | refine Nd.mk (by omega) ?_ | (refine Nd.mk ?_ ?_; focus ((repeat' (first | exact trivial | exact wkE_refl _ | refine And.intro ?_ ?_)); done)) | refine RdN.intro _ rfl (by rfl) ?_); (conv => whnf))))
  refine brd_dec (fun h => ?_) (fun h => ?_)
  · have h : N > 50000 := by have h : (N : Int) > 50000 := h; omega
    ((conv => whnf); (repeat ((first | refine VrN.norm (wrap_i64 (by omega)) ?_ | refine VrN.keep ?_ | refine DrawN.calm (by decide +kernel) ?_ | refine Nd.mk (by decide +kernel) ?_ | refine Nd.mk (by omega) ?_ | (refine Nd.mk ?_ ?_; focus ((repeat' (first | exact trivial | exact wkE_refl _ | refine And.intro ?_ ?_)); done)) | refine RdN.intro _ rfl (by rfl) ?_); (conv => whnf))))
    refine ReadW.bytes (e := 5) (List.replicate N 0) (by simp) rfl (by kernel_rfl) (by kernel_rfl) (by kernel_rfl) rfl (fun w hw => hZ w hw.2.1) ?_
    ((conv => whnf); (repeat ((first | refine VrN.norm (wrap_i64 (by omega)) ?_ | refine VrN.keep ?_ | refine DrawN.calm (by decide +kernel) ?_ | refine Nd.mk (by decide +kernel) ?_ | refine Nd.mk (by omega) ?_ | (refine Nd.mk ?_ ?_; focus ((repeat' (first | exact trivial | exact wkE_refl _ | refine And.intro ?_ ?_)); done)) | refine RdN.intro _ rfl (by rfl) ?_); (conv => whnf))))
    refine SpecF.call (Parts_c (List.replicate N 0) _ (by simp; omega)) (fun w hw => hw.1) fun v G hR => ?_
    obtain ⟨ob, cap, rfl, hn, hG⟩ := hR
    rw [parts_zero, if_pos h]
    ((conv => whnf); (repeat ((first | refine VrN.norm (wrap_i64 (by omega)) ?_ | refine VrN.keep ?_ | refine DrawN.calm (by decide +kernel) ?_ | refine Nd.mk (by decide +kernel) ?_ | refine Nd.mk (by omega) ?_ | (refine Nd.mk ?_ ?_; focus ((repeat' (first | exact trivial | exact wkE_refl _ | refine And.intro ?_ ?_)); done)) | refine RdN.intro _ rfl (by rfl) ?_); (conv => whnf))))
    refine ReadW.bytes (e := 5) (List.replicate N 0) (by simp) rfl (by kernel_rfl) (by kernel_rfl) (by kernel_rfl) rfl (fun w hw => hZ w hw.2.1) ?_
    ((conv => whnf); (repeat ((first | refine VrN.norm (wrap_i64 (by omega)) ?_ | refine VrN.keep ?_ | refine DrawN.calm (by decide +kernel) ?_ | refine Nd.mk (by decide +kernel) ?_ | refine Nd.mk (by omega) ?_ | (refine Nd.mk ?_ ?_; focus ((repeat' (first | exact trivial | exact wkE_refl _ | refine And.intro ?_ ?_)); done)) | refine RdN.intro _ rfl (by rfl) ?_); (conv => whnf))))
    refine call1 (Plain_c (List.replicate N 0) _ (by simp; omega) _ fun w hw => hw.1) ?_
    rw [plainP_snd, parts_zero, if_pos h]
    ((conv => whnf); (repeat ((first | refine VrN.norm (wrap_i64 (by omega)) ?_ | refine VrN.keep ?_ | refine DrawN.calm (by decide +kernel) ?_ | refine Nd.mk (by decide +kernel) ?_ | refine Nd.mk (by omega) ?_ | (refine Nd.mk ?_ ?_; focus ((repeat' (first | exact trivial | exact wkE_refl _ | refine And.intro ?_ ?_)); done)) | refine RdN.intro _ rfl (by rfl) ?_); (conv => whnf))))
    refine ReadW.bytes (e := 5) (List.replicate N 0) (by simp) rfl (by kernel_rfl) (by kernel_rfl) (by kernel_rfl) rfl (fun w hw => hZ w hw.2.1) ?_
    ((conv => whnf); (repeat ((first | refine VrN.norm (wrap_i64 (by omega)) ?_ | refine VrN.keep ?_ | refine DrawN.calm (by decide +kernel) ?_ | refine Nd.mk (by decide +kernel) ?_ | refine Nd.mk (by omega) ?_ | (refine Nd.mk ?_ ?_; focus ((repeat' (first | exact trivial | exact wkE_refl _ | refine And.intro ?_ ?_)); done)) | refine RdN.intro _ rfl (by rfl) ?_); (conv => whnf))))
    refine call1 (Program_nil (List.replicate N 0) _) ?_
    ((conv => whnf); (repeat ((first | refine VrN.norm (wrap_i64 (by omega)) ?_ | refine VrN.keep ?_ | refine DrawN.calm (by decide +kernel) ?_ | refine Nd.mk (by decide +kernel) ?_ | refine Nd.mk (by omega) ?_ | (refine Nd.mk ?_ ?_; focus ((repeat' (first | exact trivial | exact wkE_refl _ | refine And.intro ?_ ?_)); done)) | refine RdN.intro _ rfl (by rfl) ?_); (conv => whnf))))
    refine call1 (sane_c _ fun w hw => hw.1) ?_
    ((conv => whnf); (repeat ((first | refine VrN.norm (wrap_i64 (by omega)) ?_ | refine VrN.keep ?_ | refine DrawN.calm (by decide +kernel) ?_ | refine Nd.mk (by decide +kernel) ?_ | refine Nd.mk (by omega) ?_ | (refine Nd.mk ?_ ?_; focus ((repeat' (first | exact trivial | exact wkE_refl _ | refine And.intro ?_ ?_)); done)) | refine RdN.intro _ rfl (by rfl) ?_); (conv => whnf))))
  · have h : ¬ N > 50000 := by have h : ¬ (N : Int) > 50000 := h; omega
    ((conv => whnf); (repeat ((first | refine VrN.norm (wrap_i64 (by omega)) ?_ | refine VrN.keep ?_ | refine DrawN.calm (by decide +kernel) ?_ | refine Nd.mk (by decide +kernel) ?_ | refine Nd.mk (by omega) ?_ | (refine Nd.mk ?_ ?_; focus ((repeat' (first | exact trivial | exact wkE_refl _ | refine And.intro ?_ ?_)); done)) | refine RdN.intro _ rfl (by rfl) ?_); (conv => whnf))))
    refine ReadW.bytes (e := 5) (List.replicate N 0) (by simp) rfl (by kernel_rfl) (by kernel_rfl) (by kernel_rfl) rfl (fun w hw => hZ w hw.2.1) ?_
    ((conv => whnf); (repeat ((first | refine VrN.norm (wrap_i64 (by omega)) ?_ | refine VrN.keep ?_ | refine DrawN.calm (by decide +kernel) ?_ | refine Nd.mk (by decide +kernel) ?_ | refine Nd.mk (by omega) ?_ | (refine Nd.mk ?_ ?_; focus ((repeat' (first | exact trivial | exact wkE_refl _ | refine And.intro ?_ ?_)); done)) | refine RdN.intro _ rfl (by rfl) ?_); (conv => whnf))))
    refine SpecF.call (Parts_c (List.replicate N 0) _ (by simp; omega)) (fun w hw => hw.1) fun v G hR => ?_
    obtain ⟨ob, cap, rfl, hn, hG⟩ := hR
    rw [parts_zero, if_neg h]
    ((conv => whnf); (repeat ((first | refine VrN.norm (wrap_i64 (by omega)) ?_ | refine VrN.keep ?_ | refine DrawN.calm (by decide +kernel) ?_ | refine Nd.mk (by decide +kernel) ?_ | refine Nd.mk (by omega) ?_ | (refine Nd.mk ?_ ?_; focus ((repeat' (first | exact trivial | exact wkE_refl _ | refine And.intro ?_ ?_)); done)) | refine RdN.intro _ rfl (by rfl) ?_); (conv => whnf))))
    refine ReadW.bytes (e := 5) (List.replicate N 0) (by simp) rfl (by kernel_rfl) (by kernel_rfl) (by kernel_rfl) rfl (fun w hw => hZ w hw.2.1) ?_
    ((conv => whnf); (repeat ((first | refine VrN.norm (wrap_i64 (by omega)) ?_ | refine VrN.keep ?_ | refine DrawN.calm (by decide +kernel) ?_ | refine Nd.mk (by decide +kernel) ?_ | refine Nd.mk (by omega) ?_ | (refine Nd.mk ?_ ?_; focus ((repeat' (first | exact trivial | exact wkE_refl _ | refine And.intro ?_ ?_)); done)) | refine RdN.intro _ rfl (by rfl) ?_); (conv => whnf))))
    refine call1 (Plain_c (List.replicate N 0) _ (by simp; omega) _ fun w hw => hw.1) ?_
    rw [plainP_snd, parts_zero, if_neg h]
    ((conv => whnf); (repeat ((first | refine VrN.norm (wrap_i64 (by omega)) ?_ | refine VrN.keep ?_ | refine DrawN.calm (by decide +kernel) ?_ | refine Nd.mk (by decide +kernel) ?_ | refine Nd.mk (by omega) ?_ | (refine Nd.mk ?_ ?_; focus ((repeat' (first | exact trivial | exact wkE_refl _ | refine And.intro ?_ ?_)); done)) | refine RdN.intro _ rfl (by rfl) ?_); (conv => whnf))))
    refine ReadW.bytes (e := 5) (List.replicate N 0) (by simp) rfl (by kernel_rfl) (by kernel_rfl) (by kernel_rfl) rfl (fun w hw => hZ w hw.2.1) ?_
    ((conv => whnf); (repeat ((first | refine VrN.norm (wrap_i64 (by omega)) ?_ | refine VrN.keep ?_ | refine DrawN.calm (by decide +kernel) ?_ | refine Nd.mk (by decide +kernel) ?_ | refine Nd.mk (by omega) ?_ | (refine Nd.mk ?_ ?_; focus ((repeat' (first | exact trivial | exact wkE_refl _ | refine And.intro ?_ ?_)); done)) | refine RdN.intro _ rfl (by rfl) ?_); (conv => whnf))))
    refine call1 (Program_nil (List.replicate N 0) _) ?_
    ((conv => whnf); (repeat ((first | refine VrN.norm (wrap_i64 (by omega)) ?_ | refine VrN.keep ?_ | refine DrawN.calm (by decide +kernel) ?_ | refine Nd.mk (by decide +kernel) ?_ | refine Nd.mk (by omega) ?_ | (refine Nd.mk ?_ ?_; focus ((repeat' (first | exact trivial | exact wkE_refl _ | refine And.intro ?_ ?_)); done)) | refine RdN.intro _ rfl (by rfl) ?_); (conv => whnf))))
    refine call1 (sane_c _ fun w hw => hw.1) ?_
    ((conv => whnf); (repeat ((first | refine VrN.norm (wrap_i64 (by omega)) ?_ | refine VrN.keep ?_ | refine DrawN.calm (by decide +kernel) ?_ | refine Nd.mk (by decide +kernel) ?_ | refine Nd.mk (by omega) ?_ | (refine Nd.mk ?_ ?_; focus ((repeat' (first | exact trivial | exact wkE_refl _ | refine And.intro ?_ ?_)); done)) | refine RdN.intro _ rfl (by rfl) ?_); (conv => whnf))))
end Go.Proofs.YtfcjgklghgpddaaGreatDoor
