/-
  Numbers as texts of a width.
-/
import Derived.Test.YtnecdpkmmncfaaaDoorE1
import Derived.Test.YtnecdpkmmncfaaaDoorT1
import Derived.Test.YtnecdpkmmncfaaaDoorAx17
import Derived.Lib.ItoaLen
import Derived.Lib.AppendIntMem
namespace Go.Proofs.YtnecdpkmmncfaaaDoor
open Go.AX Go.RowKit
set_option maxRecDepth 20000

def bs (l : List UInt8) : ByteArray := ⟨l.toArray⟩
theorem bs_app (a b : List UInt8) : bs a ++ bs b = bs (a ++ b) := by
  apply ByteArray.ext
  simp [bs]
theorem bs_size (a : List UInt8) : (bs a).size = a.length := by simp [bs, ByteArray.size]
theorem bs_list (a : List UInt8) : (bs a).data.toList = a := by simp [bs]
/-- The table that strconv reads. -/
def Tab (w : World) : Prop := Lib.TabIs Tryd.prog w "internal/strconv.uint64pow10" .u64 Lib.pow10Tab

theorem Itoa_c (n : Int) (hn : 0 ≤ n ∧ n ≤ 1000000000000) : ∀ H, (∀ w, Facts H w → Tab w) → SpecH Tryd.prog 51 (pvs [.int .i64 n]) H (Ret (.string (bs (Lib.itoa n))) H) := fun H hF =>
  SpecH.rawP (R := fun r => r = .string (bs (Lib.itoa n))) (callOk Tryd.func51 (by kernel_rfl) rfl) (fun w hw => (Tryd.strconv_Itoa n (by omega) (by omega) w (hF w hw)).mono fun e w' ⟨he, k, os, hw'⟩ => ⟨_, he, rfl, by subst hw'; exact Lib.below_grow _ _ (Nat.le_refl _) k os⟩) fun r hr => by subst hr; exact ⟨rfl, rfl⟩
theorem Repeat_c (c : Nat) (hc : c ≤ 1000) : ∀ H, SpecH Tryd.prog 54 (pvs [.string ⟨#[48]⟩, .int .i64 c]) H (Ret (.string (bs (Lib.repeatL [48] c))) H) := fun H =>
  SpecH.rawP (R := fun r => r = .string (bs (Lib.repeatL [48] c))) (callOk Tryd.func54 (by kernel_rfl) rfl) (fun w hw => (Tryd.strings_Repeat ⟨#[48]⟩ c w (by omega) (by simp [ByteArray.size]; omega)).mono fun e w' ⟨he, bel⟩ => ⟨_, he, rfl, bel⟩) fun r hr => by subst hr; exact ⟨rfl, rfl⟩

def padL (k : Nat) (l : List UInt8) : List UInt8 := Lib.repeatL [48] (k - l.length) ++ l
theorem itoa_len (n : Int) (hn : 0 ≤ n ∧ n ≤ 1000000000000) : (Lib.itoa n).length ≤ 21 := Lib.itoa_length_le n (by omega) (by omega)
theorem padL_len (k : Nat) (l : List UInt8) : (padL k l).length = max k l.length := by simp [padL, Lib.repeatL_length]; omega

theorem max_sub (a b : Nat) (ha : a ≤ 1000) (hb : b ≤ 1000) : maxI 0 (IntKind.wrap .i64 ((a : Int) - (b : Int))) = ((a - b : Nat) : Int) := by
  rw [wrap_i64 (by omega)]; unfold maxI; split <;> omega
theorem pad_c (n : Int) (k : Nat) (hn : 0 ≤ n ∧ n ≤ 1000000000000) (hk : k ≤ 100) : ∀ H, (∀ w, Facts H w → Tab w) → SpecH Tryd.prog 46 (pvs [.int .i64 n, .int .i64 k]) H (Ret (.string (bs (padL k (Lib.itoa n)))) H) := by
  refine factC hm Tryd.func46 (by kernel_rfl) rfl rfl ?_
  have hl := itoa_len n hn
  ((conv => whnf); (repeat ((first | refine VrN.norm (wrap_i64 (by omega)) ?_ | refine VrN.keep ?_ | refine DrawN.calm (by decide +kernel) ?_ | refine Nd.mk (by decide +kernel) ?_ | refine Nd.mk (by omega) ?_ | (refine Nd.mk ?_ ?_; focus ((repeat' (first | exact trivial | exact wkE_refl _ | refine And.intro ?_ ?_)); done)) | refine RdN.intro _ rfl (by rfl) ?_); (conv => whnf)))); refine call1 (Itoa_c n hn _ fun w hw => hw.1) ?_
  unfold padL
  generalize Lib.itoa n = t at *
  ((conv => whnf); (repeat ((first | refine VrN.norm (wrap_i64 (by omega)) ?_ | refine VrN.keep ?_ | refine DrawN.calm (by decide +kernel) ?_ | refine Nd.mk (by decide +kernel) ?_ | refine Nd.mk (by omega) ?_ | (refine Nd.mk ?_ ?_; focus ((repeat' (first | exact trivial | exact wkE_refl _ | refine And.intro ?_ ?_)); done)) | refine RdN.intro _ rfl (by rfl) ?_); (conv => whnf))))
  rw [bs_size, max_sub _ _ (by omega) (by omega)]
  refine call1 (Repeat_c _ (by omega) _) ?_
  ((conv => whnf); (repeat ((first | refine VrN.norm (wrap_i64 (by omega)) ?_ | refine VrN.keep ?_ | refine DrawN.calm (by decide +kernel) ?_ | refine Nd.mk (by decide +kernel) ?_ | refine Nd.mk (by omega) ?_ | (refine Nd.mk ?_ ?_; focus ((repeat' (first | exact trivial | exact wkE_refl _ | refine And.intro ?_ ?_)); done)) | refine RdN.intro _ rfl (by rfl) ?_); (conv => whnf))))
  refine Nd.mk (by simp [bs_size, Lib.repeatL_length]; omega) ?_
  rw [bs_app]
  ((conv => whnf); (repeat ((first | refine VrN.norm (wrap_i64 (by omega)) ?_ | refine VrN.keep ?_ | refine DrawN.calm (by decide +kernel) ?_ | refine Nd.mk (by decide +kernel) ?_ | refine Nd.mk (by omega) ?_ | (refine Nd.mk ?_ ?_; focus ((repeat' (first | exact trivial | exact wkE_refl _ | refine And.intro ?_ ?_)); done)) | refine RdN.intro _ rfl (by rfl) ?_); (conv => whnf))))
theorem wide_c (n : Int) (k : Nat) (hn : 0 ≤ n ∧ n ≤ 1000000000000) (hk : k ≤ 100) : ∀ H, (∀ w, Facts H w → Tab w) → SpecH Tryd.prog 40 (pvs [.int .i64 n, .int .i64 k]) H (Ret (.string (bs (padL k (Lib.itoa n)))) H) := by
  refine factC hm Tryd.func40 (by kernel_rfl) rfl rfl ?_
  have hl := itoa_len n hn
  ((conv => whnf); (repeat ((first | refine VrN.norm (wrap_i64 (by omega)) ?_ | refine VrN.keep ?_ | refine DrawN.calm (by decide +kernel) ?_ | refine Nd.mk (by decide +kernel) ?_ | refine Nd.mk (by omega) ?_ | (refine Nd.mk ?_ ?_; focus ((repeat' (first | exact trivial | exact wkE_refl _ | refine And.intro ?_ ?_)); done)) | refine RdN.intro _ rfl (by rfl) ?_); (conv => whnf)))); refine call1 (Itoa_c n hn _ fun w hw => hw.1) ?_
  unfold padL
  generalize Lib.itoa n = t at *
  ((conv => whnf); (repeat ((first | refine VrN.norm (wrap_i64 (by omega)) ?_ | refine VrN.keep ?_ | refine DrawN.calm (by decide +kernel) ?_ | refine Nd.mk (by decide +kernel) ?_ | refine Nd.mk (by omega) ?_ | (refine Nd.mk ?_ ?_; focus ((repeat' (first | exact trivial | exact wkE_refl _ | refine And.intro ?_ ?_)); done)) | refine RdN.intro _ rfl (by rfl) ?_); (conv => whnf))))
  refine loopS Nat (fun i => i ≤ k - t.length) (fun i => mkS 15 0 [(1, .c (.v (.int .i64 (k : Int)))), (5, .c (.v (.string (bs (Lib.repeatL [48] i ++ t)))))]) (fun i => k - t.length - i) rfl (fun _ => rfl) 0 (by omega) ?_ fun i hi => ?_
  · (repeat' (first | exact trivial | refine And.intro (by with_reducible rfl) ?_ | (with_reducible exact wkC_refl _) | (with_reducible exact wkCs_refl _) | refine And.intro ?_ ?_))
    all_goals rfl
  have hle : (Lib.repeatL [48] i ++ t).length = i + t.length := by simp [Lib.repeatL_length]
  ((conv => whnf); (repeat ((first | refine VrN.norm (wrap_i64 (by omega)) ?_ | refine VrN.keep ?_ | refine DrawN.calm (by decide +kernel) ?_ | refine Nd.mk (by decide +kernel) ?_ | refine Nd.mk (by omega) ?_ | (refine Nd.mk ?_ ?_; focus ((repeat' (first | exact trivial | exact wkE_refl _ | refine And.intro ?_ ?_)); done)) | refine RdN.intro _ rfl (by rfl) ?_); (conv => whnf))))
  rw [bs_size, hle]
  refine brd_dec (fun h1 => ?_) (fun h1 => ?_)
  · ((conv => whnf); (repeat ((first | refine VrN.norm (wrap_i64 (by omega)) ?_ | refine VrN.keep ?_ | refine DrawN.calm (by decide +kernel) ?_ | refine Nd.mk (by decide +kernel) ?_ | refine Nd.mk (by omega) ?_ | (refine Nd.mk ?_ ?_; focus ((repeat' (first | exact trivial | exact wkE_refl _ | refine And.intro ?_ ?_)); done)) | refine RdN.intro _ rfl (by rfl) ?_); (conv => whnf))))
    refine Nd.mk (by rw [bs_size, hle]; simp [ByteArray.size]; omega) ?_
    rw [show (⟨#[48]⟩ : ByteArray) = bs [48] from rfl, bs_app]
    ((conv => whnf); (repeat ((first | refine VrN.norm (wrap_i64 (by omega)) ?_ | refine VrN.keep ?_ | refine DrawN.calm (by decide +kernel) ?_ | refine Nd.mk (by decide +kernel) ?_ | refine Nd.mk (by omega) ?_ | (refine Nd.mk ?_ ?_; focus ((repeat' (first | exact trivial | exact wkE_refl _ | refine And.intro ?_ ?_)); done)) | refine RdN.intro _ rfl (by rfl) ?_); (conv => whnf))))
    refine ⟨i + 1, by omega, by omega, ?_, by (repeat' (first | exact trivial | exact wkE_refl _ | refine And.intro ?_ ?_))⟩
    (repeat' (first | exact trivial | refine And.intro (by with_reducible rfl) ?_ | (with_reducible exact wkC_refl _) | (with_reducible exact wkCs_refl _) | refine And.intro ?_ ?_))
    simp [Lib.repeatL]
  · have e : i = k - t.length := by omega
    subst e
    ((conv => whnf); (repeat ((first | refine VrN.norm (wrap_i64 (by omega)) ?_ | refine VrN.keep ?_ | refine DrawN.calm (by decide +kernel) ?_ | refine Nd.mk (by decide +kernel) ?_ | refine Nd.mk (by omega) ?_ | (refine Nd.mk ?_ ?_; focus ((repeat' (first | exact trivial | exact wkE_refl _ | refine And.intro ?_ ?_)); done)) | refine RdN.intro _ rfl (by rfl) ?_); (conv => whnf))))
end Go.Proofs.YtnecdpkmmncfaaaDoor
