/-
  Contracts: templates of numbers; the law ErbBack.
-/
import Derived.Test.YtfcjgklghgpddaaDoorH8
namespace Go.Proofs.YtfcjgklghgpddaaDoor
open Go.AX Go.RowKit Go.Erb
set_option maxRecDepth 20000

def intsC (l : List Int) : List Value := l.map (.int .i64)
theorem in24 {j : Nat} (h : j < 24) : j = 0 ∨ j = 1 ∨ j = 2 ∨ j = 3 ∨ j = 4 ∨ j = 5 ∨ j = 6 ∨ j = 7 ∨ j = 8 ∨ j = 9 ∨ j = 10 ∨ j = 11 ∨ j = 12 ∨ j = 13 ∨ j = 14 ∨ j = 15 ∨ j = 16 ∨ j = 17 ∨ j = 18 ∨ j = 19 ∨ j = 20 ∨ j = 21 ∨ j = 22 ∨ j = 23 := by omega
theorem Grown_c (a : Option Addr) (cap : Nat) (l : List Int) (hl : l.length ≤ 200000000000000) (ha : a.isSome = true ∨ l.length = 0) : ∀ H, (∀ w, Facts H w → SlAt a l.length (intsC l) w) →
    SpecH Tryd.prog 12 (pvs [.slice a l.length cap]) H (RetR (fun r => ∃ s : List UInt8, r = .string (bs s) ∧ s.length ≤ 600) H) := by
  refine factR hm Tryd.func12 (by kernel_rfl) rfl rfl ?_
  ((conv => whnf); (repeat ((first | refine VrN.norm (wrap_i64 (by omega)) ?_ | refine VrN.keep ?_ | refine DrawN.calm (by decide +kernel) ?_ | refine Nd.mk (by decide +kernel) ?_ | refine Nd.mk (by omega) ?_ | (refine Nd.mk ?_ ?_; focus ((repeat' (first | exact trivial | exact wkE_refl _ | refine And.intro ?_ ?_)); done)) | refine RdN.intro _ rfl (by rfl) ?_); (conv => whnf))))
  refine loopS (Nat × ByteArray) (fun ⟨i, b⟩ => i ≤ l.length ∧ i ≤ 30 ∧ b.size ≤ 20 * i) (fun ⟨i, b⟩ => mkS Tryd.f12.ntmps 0 [(0, .c (.v (.slice a l.length cap))), (3, .c (.sl 1 24)), (4, .c (.v (.string b))), (5, .c (.v (.int .i64 (i : Int))))]) (fun ⟨i, _⟩ => 30 - i) rfl (fun _ => rfl) (0, ⟨#[]⟩) ⟨by omega, by omega, Nat.zero_le _⟩ ?_ fun ⟨i, b⟩ ⟨hi, h30, hb⟩ => ?_
  · (repeat' (first | exact trivial | refine And.intro (by with_reducible rfl) ?_ | (with_reducible exact wkC_refl _) | (with_reducible exact wkCs_refl _) | refine And.intro ?_ ?_))
    all_goals rfl
  ((conv => whnf); (repeat ((first | refine VrN.norm (wrap_i64 (by omega)) ?_ | refine VrN.keep ?_ | refine DrawN.calm (by decide +kernel) ?_ | refine Nd.mk (by decide +kernel) ?_ | refine Nd.mk (by omega) ?_ | (refine Nd.mk ?_ ?_; focus ((repeat' (first | exact trivial | exact wkE_refl _ | refine And.intro ?_ ?_)); done)) | refine RdN.intro _ rfl (by rfl) ?_); (conv => whnf))))
  refine brd_dec (fun h1 => ?_) (fun h1 => ?_)
  · ((conv => whnf); (repeat ((first | refine VrN.norm (wrap_i64 (by omega)) ?_ | refine VrN.keep ?_ | refine DrawN.calm (by decide +kernel) ?_ | refine Nd.mk (by decide +kernel) ?_ | refine Nd.mk (by omega) ?_ | (refine Nd.mk ?_ ?_; focus ((repeat' (first | exact trivial | exact wkE_refl _ | refine And.intro ?_ ?_)); done)) | refine RdN.intro _ rfl (by rfl) ?_); (conv => whnf))))
    refine brd_dec (fun h2 => ?_) (fun h2 => ?_)
    · have hx : ∃ x, l[i]? = some x := ⟨_, List.getElem?_eq_getElem (by omega)⟩
      obtain ⟨x, hx⟩ := hx
      have hsa : a.isSome = true := ha.resolve_right (by omega)
      have hj : ∃ j : Nat, j < 24 ∧ (IntKind.wrap .u64 x).tmod 24 = (j : Int) := by
        have h := wrap_u64_bd x
        have h1 : 0 ≤ (IntKind.wrap .u64 x).tmod 24 := Int.tmod_nonneg _ h.1
        have h2 : (IntKind.wrap .u64 x).tmod 24 < 24 := Int.tmod_lt_of_pos _ (by omega)
        exact ⟨((IntKind.wrap .u64 x).tmod 24).toNat, by omega, by omega⟩
      obtain ⟨j, hj, hjx⟩ := hj
      ((conv => whnf); (repeat ((first | refine VrN.norm (wrap_i64 (by omega)) ?_ | refine VrN.keep ?_ | refine DrawN.calm (by decide +kernel) ?_ | refine Nd.mk (by decide +kernel) ?_ | refine Nd.mk (by omega) ?_ | (refine Nd.mk ?_ ?_; focus ((repeat' (first | exact trivial | exact wkE_refl _ | refine And.intro ?_ ?_)); done)) | refine RdN.intro _ rfl (by rfl) ?_); (conv => whnf))))
      refine Nd.mk ⟨hsa, by omega, by omega⟩ ?_
      ((conv => whnf); (repeat ((first | refine VrN.norm (wrap_i64 (by omega)) ?_ | refine VrN.keep ?_ | refine DrawN.calm (by decide +kernel) ?_ | refine Nd.mk (by decide +kernel) ?_ | refine Nd.mk (by omega) ?_ | (refine Nd.mk ?_ ?_; focus ((repeat' (first | exact trivial | exact wkE_refl _ | refine And.intro ?_ ?_)); done)) | refine RdN.intro _ rfl (by rfl) ?_); (conv => whnf))))
      refine LdN.one (.int .i64 x) rfl (fun w hw => hw.1) (by rw [Int.toNat_natCast]; show (intsC l)[i * 1]? = _; rw [Nat.mul_one, intsC, List.getElem?_map, hx]; rfl) ?_
      ((conv => whnf); (repeat ((first | refine VrN.norm (wrap_i64 (by omega)) ?_ | refine VrN.keep ?_ | refine DrawN.calm (by decide +kernel) ?_ | refine Nd.mk (by decide +kernel) ?_ | refine Nd.mk (by omega) ?_ | (refine Nd.mk ?_ ?_; focus ((repeat' (first | exact trivial | exact wkE_refl _ | refine And.intro ?_ ?_)); done)) | refine RdN.intro _ rfl (by rfl) ?_); (conv => whnf))))
      rw [show IntKind.wrap .u64 ((24 : Nat) : Int) = 24 from by decide +kernel, hjx]
      refine Nd.mk ⟨by omega, by omega⟩ ?_
      rcases in24 hj with rfl | rfl | rfl | rfl | rfl | rfl | rfl | rfl | rfl | rfl | rfl | rfl | rfl | rfl | rfl | rfl | rfl | rfl | rfl | rfl | rfl | rfl | rfl | rfl
      all_goals
        ((conv => whnf); (repeat ((first | refine VrN.norm (wrap_i64 (by omega)) ?_ | refine VrN.keep ?_ | refine DrawN.calm (by decide +kernel) ?_ | refine Nd.mk (by decide +kernel) ?_ | refine Nd.mk (by omega) ?_ | (refine Nd.mk ?_ ?_; focus ((repeat' (first | exact trivial | exact wkE_refl _ | refine And.intro ?_ ?_)); done)) | refine RdN.intro _ rfl (by rfl) ?_); (conv => whnf))))
        refine Nd.mk (Nat.lt_of_le_of_lt (Nat.add_le_add_left (show _ ≤ 20 from by decide) _) (show b.size + 20 < 9223372036854775808 by omega)) ?_
        ((conv => whnf); (repeat ((first | refine VrN.norm (wrap_i64 (by omega)) ?_ | refine VrN.keep ?_ | refine DrawN.calm (by decide +kernel) ?_ | refine Nd.mk (by decide +kernel) ?_ | refine Nd.mk (by omega) ?_ | (refine Nd.mk ?_ ?_; focus ((repeat' (first | exact trivial | exact wkE_refl _ | refine And.intro ?_ ?_)); done)) | refine RdN.intro _ rfl (by rfl) ?_); (conv => whnf))))
        refine ⟨(i + 1, ?_), ?_, ?_, ?_, ?_⟩
        rotate_left 3
        · (repeat' (first | exact trivial | refine And.intro (by with_reducible rfl) ?_ | (with_reducible exact wkC_refl _) | (with_reducible exact wkCs_refl _) | refine And.intro ?_ ?_))
          all_goals first | exact av_int (by first | omega | (rw [wrap_i64 (by omega)]; omega)) | rfl
        · exact wkH_refl _
        · refine ⟨by omega, by omega, ?_⟩
          rw [ByteArray.size_append]
          exact Nat.le_trans (Nat.add_le_add_left (show _ ≤ 20 from by decide) _) (by omega)
        · show 30 - (i + 1) < 30 - i
          omega
    · ((conv => whnf); (repeat ((first | refine VrN.norm (wrap_i64 (by omega)) ?_ | refine VrN.keep ?_ | refine DrawN.calm (by decide +kernel) ?_ | refine Nd.mk (by decide +kernel) ?_ | refine Nd.mk (by omega) ?_ | (refine Nd.mk ?_ ?_; focus ((repeat' (first | exact trivial | exact wkE_refl _ | refine And.intro ?_ ?_)); done)) | refine RdN.intro _ rfl (by rfl) ?_); (conv => whnf))))
      exact ⟨_, rfl, b.data.toList, rfl, by show b.size ≤ _; omega⟩
  · ((conv => whnf); (repeat ((first | refine VrN.norm (wrap_i64 (by omega)) ?_ | refine VrN.keep ?_ | refine DrawN.calm (by decide +kernel) ?_ | refine Nd.mk (by decide +kernel) ?_ | refine Nd.mk (by omega) ?_ | (refine Nd.mk ?_ ?_; focus ((repeat' (first | exact trivial | exact wkE_refl _ | refine And.intro ?_ ?_)); done)) | refine RdN.intro _ rfl (by rfl) ?_); (conv => whnf))))
    exact ⟨_, rfl, b.data.toList, rfl, by show b.size ≤ _; omega⟩
end Go.Proofs.YtfcjgklghgpddaaDoor
