/-
  Contracts: which parts some template has (Fits); the parts as the document's.
-/
import Derived.Test.YtfcjgklghgpddaaDoorH3
import Derived.Test.YtfcjgklghgpddaaDoorG12
namespace Go.Proofs.YtfcjgklghgpddaaDoor
open Go.AX Go.RowKit Go.Erb
set_option maxRecDepth 20000

theorem ends_eq (t : List UInt8) (c : UInt8) : ends t c = (t.getLast? == some c) := by
  unfold ends
  cases t.getLast? with
  | none => rfl
  | some d => simp
def hdB (t : List UInt8) : Bool := match t.head? with | none => true | some c => c == 61 || c == 35 || c == 37 || c == 45
theorem bad_out {pv : Bool} {k : Int} {t : List UInt8} (h : k < 0 ∨ k > 3) : bad pv k t = true := by unfold bad; rcases h with h | h <;> simp [h]
theorem bad_0 (pv : Bool) (t : List UInt8) : bad pv 0 t = (t.isEmpty || pv) := by simp [bad]
theorem bad_1 (pv : Bool) (t : List UInt8) : bad pv 1 t = (t.getLast? == some 45 || t.getLast? == some 37 || hdB t) := by simp only [bad, hdB, ends_eq]; cases t <;> simp
theorem bad_2 (pv : Bool) (t : List UInt8) : bad pv 2 t = (t.getLast? == some 45 || t.getLast? == some 37) := by simp [bad, ends_eq]
theorem bad_3 (pv : Bool) (t : List UInt8) : bad pv 3 t = (t.getLast? == some 45 || t.getLast? == some 37) := by simp [bad, ends_eq]
/-- Is the part ahead of the place a text? -/
def pvA (l : List Part) (i : Nat) : Bool := if i = 0 then false else match l[i - 1]? with | some q => q.kind == 0 | none => false
theorem pvA_succ {l : List Part} {i : Nat} {p : Part} (h : l[i]? = some p) : pvA l (i + 1) = (p.kind == 0) := by simp [pvA, h]
theorem kinds (k : Int) : k < 0 ∨ k > 3 ∨ k = 0 ∨ k = 1 ∨ k = 2 ∨ k = 3 := by omega
theorem idx4 (c : UInt8) : decide (Lib.indexByte [61, 35, 37, 45] c ≥ 0) = (c == 61 || c == 35 || c == 37 || c == 45) := by
  by_cases h1 : c = 61
  · subst h1; decide
  by_cases h2 : c = 35
  · subst h2; decide
  by_cases h3 : c = 37
  · subst h3; decide
  by_cases h4 : c = 45
  · subst h4; decide
  have e : Lib.indexByte [61, 35, 37, 45] c = -1 := by
    simp only [Lib.indexByte, show ((61 : UInt8) == c) = false from beq_eq_false_iff_ne.2 (Ne.symm h1), show ((35 : UInt8) == c) = false from beq_eq_false_iff_ne.2 (Ne.symm h2), show ((37 : UInt8) == c) = false from beq_eq_false_iff_ne.2 (Ne.symm h3), show ((45 : UInt8) == c) = false from beq_eq_false_iff_ne.2 (Ne.symm h4)]
    rfl
  rw [e]
  simp [h1, h2, h3, h4]
set_option maxHeartbeats 1000000 in
theorem Fits_c (a : Option Addr) (cap : Nat) (l : List Part) (hl : l.length ≤ 1000000) (htl : ∀ p ∈ l, p.text.length ≤ 1000000) (ha : a = none → l = []) : ∀ H, (∀ w, Facts H w → SlAt a (l.length * 3) (partsC l) w) →
    SpecH Tryd.prog 18 (pvs [.slice a l.length cap]) H (Ret (.bool (fits false l)) H) := by
  refine factC hm Tryd.func18 (by kernel_rfl) rfl rfl ?_
  ((conv => whnf); (repeat ((first | refine VrN.norm (wrap_i64 (by omega)) ?_ | refine VrN.keep ?_ | refine DrawN.calm (by decide +kernel) ?_ | refine Nd.mk (by decide +kernel) ?_ | refine Nd.mk (by omega) ?_ | (refine Nd.mk ?_ ?_; focus ((repeat' (first | exact trivial | exact wkE_refl _ | refine And.intro ?_ ?_)); done)) | refine RdN.intro _ rfl (by rfl) ?_); (conv => whnf))))
  refine loopS Nat (fun i => i ≤ l.length ∧ fits (pvA l i) (l.drop i) = fits false l) (fun i => mkS Tryd.f18.ntmps 0 [(0, .c (.v (.slice a l.length cap))), (3, .c (.v (.int .i64 (i : Int))))]) (fun i => l.length - i) rfl (fun _ => rfl) 0 ⟨by omega, rfl⟩ ?_ fun i ⟨hi, he⟩ => ?_
  · (repeat' (first | exact trivial | refine And.intro (by with_reducible rfl) ?_ | (with_reducible exact wkC_refl _) | (with_reducible exact wkCs_refl _) | refine And.intro ?_ ?_))
    all_goals rfl
  ((conv => whnf); (repeat ((first | refine VrN.norm (wrap_i64 (by omega)) ?_ | refine VrN.keep ?_ | refine DrawN.calm (by decide +kernel) ?_ | refine Nd.mk (by decide +kernel) ?_ | refine Nd.mk (by omega) ?_ | (refine Nd.mk ?_ ?_; focus ((repeat' (first | exact trivial | exact wkE_refl _ | refine And.intro ?_ ?_)); done)) | refine RdN.intro _ rfl (by rfl) ?_); (conv => whnf))))
  refine brd_dec (fun h1 => ?_) (fun h1 => ?_)
  · have hp : ∃ p, l[i]? = some p := ⟨_, List.getElem?_eq_getElem (by omega)⟩
    obtain ⟨⟨k, line, t⟩, hp⟩ := hp
    have htp : t.length ≤ 1000000 := htl _ (List.mem_of_getElem? hp)
    have hd : l.drop i = ⟨k, line, t⟩ :: l.drop (i + 1) := by
      obtain ⟨h, e⟩ := List.getElem?_eq_some_iff.1 hp
      rw [← e]
      exact List.drop_eq_getElem_cons h
    have hsa : a.isSome = true := by
      cases a with
      | none => rw [ha rfl] at hp; cases hp
      | some _ => rfl
    rw [hd] at he
    simp only [fits] at he
    rcases kinds k with hk | hk | hk | hk | hk | hk
    · rw [bad_out (.inl hk)] at he
      ((conv => whnf); (repeat ((first | refine VrN.norm (wrap_i64 (by omega)) ?_ | refine VrN.keep ?_ | refine DrawN.calm (by decide +kernel) ?_ | refine Nd.mk (by decide +kernel) ?_ | refine Nd.mk (by omega) ?_ | (refine Nd.mk ?_ ?_; focus ((repeat' (first | exact trivial | exact wkE_refl _ | refine And.intro ?_ ?_)); done)) | refine RdN.intro _ rfl (by rfl) ?_); (conv => whnf))))
      refine Nd.mk ⟨hsa, by omega, by omega⟩ ?_
      ((conv => whnf); (repeat ((first | refine VrN.norm (wrap_i64 (by omega)) ?_ | refine VrN.keep ?_ | refine DrawN.calm (by decide +kernel) ?_ | refine Nd.mk (by decide +kernel) ?_ | refine Nd.mk (by omega) ?_ | (refine Nd.mk ?_ ?_; focus ((repeat' (first | exact trivial | exact wkE_refl _ | refine And.intro ?_ ?_)); done)) | refine RdN.intro _ rfl (by rfl) ?_); (conv => whnf))))
      refine LdN.fld (.string (bs t)) rfl (fun w hw => hw.1) (by rw [Int.toNat_natCast]; exact partsC_get l i 2 (by decide) hp) ?_
      ((conv => whnf); (repeat ((first | refine VrN.norm (wrap_i64 (by omega)) ?_ | refine VrN.keep ?_ | refine DrawN.calm (by decide +kernel) ?_ | refine Nd.mk (by decide +kernel) ?_ | refine Nd.mk (by omega) ?_ | (refine Nd.mk ?_ ?_; focus ((repeat' (first | exact trivial | exact wkE_refl _ | refine And.intro ?_ ?_)); done)) | refine RdN.intro _ rfl (by rfl) ?_); (conv => whnf))))
      refine Nd.mk ⟨hsa, by omega, by omega⟩ ?_
      ((conv => whnf); (repeat ((first | refine VrN.norm (wrap_i64 (by omega)) ?_ | refine VrN.keep ?_ | refine DrawN.calm (by decide +kernel) ?_ | refine Nd.mk (by decide +kernel) ?_ | refine Nd.mk (by omega) ?_ | (refine Nd.mk ?_ ?_; focus ((repeat' (first | exact trivial | exact wkE_refl _ | refine And.intro ?_ ?_)); done)) | refine RdN.intro _ rfl (by rfl) ?_); (conv => whnf))))
      refine LdN.fld (.int .i64 k) rfl (fun w hw => hw.1) (by rw [Int.toNat_natCast]; exact partsC_get l i 0 (by decide) hp) ?_
      ((conv => whnf); (repeat ((first | refine VrN.norm (wrap_i64 (by omega)) ?_ | refine VrN.keep ?_ | refine DrawN.calm (by decide +kernel) ?_ | refine Nd.mk (by decide +kernel) ?_ | refine Nd.mk (by omega) ?_ | (refine Nd.mk ?_ ?_; focus ((repeat' (first | exact trivial | exact wkE_refl _ | refine And.intro ?_ ?_)); done)) | refine RdN.intro _ rfl (by rfl) ?_); (conv => whnf))))
      refine brd_dec (fun _ => ?_) (fun h => absurd hk h)
      ((conv => whnf); (repeat ((first | refine VrN.norm (wrap_i64 (by omega)) ?_ | refine VrN.keep ?_ | refine DrawN.calm (by decide +kernel) ?_ | refine Nd.mk (by decide +kernel) ?_ | refine Nd.mk (by omega) ?_ | (refine Nd.mk ?_ ?_; focus ((repeat' (first | exact trivial | exact wkE_refl _ | refine And.intro ?_ ?_)); done)) | refine RdN.intro _ rfl (by rfl) ?_); (conv => whnf))))
      rw [← he]
      rfl
    · rw [bad_out (.inr hk)] at he
      ((conv => whnf); (repeat ((first | refine VrN.norm (wrap_i64 (by omega)) ?_ | refine VrN.keep ?_ | refine DrawN.calm (by decide +kernel) ?_ | refine Nd.mk (by decide +kernel) ?_ | refine Nd.mk (by omega) ?_ | (refine Nd.mk ?_ ?_; focus ((repeat' (first | exact trivial | exact wkE_refl _ | refine And.intro ?_ ?_)); done)) | refine RdN.intro _ rfl (by rfl) ?_); (conv => whnf))))
      refine Nd.mk ⟨hsa, by omega, by omega⟩ ?_
      ((conv => whnf); (repeat ((first | refine VrN.norm (wrap_i64 (by omega)) ?_ | refine VrN.keep ?_ | refine DrawN.calm (by decide +kernel) ?_ | refine Nd.mk (by decide +kernel) ?_ | refine Nd.mk (by omega) ?_ | (refine Nd.mk ?_ ?_; focus ((repeat' (first | exact trivial | exact wkE_refl _ | refine And.intro ?_ ?_)); done)) | refine RdN.intro _ rfl (by rfl) ?_); (conv => whnf))))
      refine LdN.fld (.string (bs t)) rfl (fun w hw => hw.1) (by rw [Int.toNat_natCast]; exact partsC_get l i 2 (by decide) hp) ?_
      ((conv => whnf); (repeat ((first | refine VrN.norm (wrap_i64 (by omega)) ?_ | refine VrN.keep ?_ | refine DrawN.calm (by decide +kernel) ?_ | refine Nd.mk (by decide +kernel) ?_ | refine Nd.mk (by omega) ?_ | (refine Nd.mk ?_ ?_; focus ((repeat' (first | exact trivial | exact wkE_refl _ | refine And.intro ?_ ?_)); done)) | refine RdN.intro _ rfl (by rfl) ?_); (conv => whnf))))
      refine Nd.mk ⟨hsa, by omega, by omega⟩ ?_
      ((conv => whnf); (repeat ((first | refine VrN.norm (wrap_i64 (by omega)) ?_ | refine VrN.keep ?_ | refine DrawN.calm (by decide +kernel) ?_ | refine Nd.mk (by decide +kernel) ?_ | refine Nd.mk (by omega) ?_ | (refine Nd.mk ?_ ?_; focus ((repeat' (first | exact trivial | exact wkE_refl _ | refine And.intro ?_ ?_)); done)) | refine RdN.intro _ rfl (by rfl) ?_); (conv => whnf))))
      refine LdN.fld (.int .i64 k) rfl (fun w hw => hw.1) (by rw [Int.toNat_natCast]; exact partsC_get l i 0 (by decide) hp) ?_
      ((conv => whnf); (repeat ((first | refine VrN.norm (wrap_i64 (by omega)) ?_ | refine VrN.keep ?_ | refine DrawN.calm (by decide +kernel) ?_ | refine Nd.mk (by decide +kernel) ?_ | refine Nd.mk (by omega) ?_ | (refine Nd.mk ?_ ?_; focus ((repeat' (first | exact trivial | exact wkE_refl _ | refine And.intro ?_ ?_)); done)) | refine RdN.intro _ rfl (by rfl) ?_); (conv => whnf))))
      refine brd_dec (fun h => absurd h (by omega)) (fun _ => ?_)
      ((conv => whnf); (repeat ((first | refine VrN.norm (wrap_i64 (by omega)) ?_ | refine VrN.keep ?_ | refine DrawN.calm (by decide +kernel) ?_ | refine Nd.mk (by decide +kernel) ?_ | refine Nd.mk (by omega) ?_ | (refine Nd.mk ?_ ?_; focus ((repeat' (first | exact trivial | exact wkE_refl _ | refine And.intro ?_ ?_)); done)) | refine RdN.intro _ rfl (by rfl) ?_); (conv => whnf))))
      refine Nd.mk ⟨hsa, by omega, by omega⟩ ?_
      ((conv => whnf); (repeat ((first | refine VrN.norm (wrap_i64 (by omega)) ?_ | refine VrN.keep ?_ | refine DrawN.calm (by decide +kernel) ?_ | refine Nd.mk (by decide +kernel) ?_ | refine Nd.mk (by omega) ?_ | (refine Nd.mk ?_ ?_; focus ((repeat' (first | exact trivial | exact wkE_refl _ | refine And.intro ?_ ?_)); done)) | refine RdN.intro _ rfl (by rfl) ?_); (conv => whnf))))
      refine LdN.fld (.int .i64 k) rfl (fun w hw => hw.1) (by rw [Int.toNat_natCast]; exact partsC_get l i 0 (by decide) hp) ?_
      ((conv => whnf); (repeat ((first | refine VrN.norm (wrap_i64 (by omega)) ?_ | refine VrN.keep ?_ | refine DrawN.calm (by decide +kernel) ?_ | refine Nd.mk (by decide +kernel) ?_ | refine Nd.mk (by omega) ?_ | (refine Nd.mk ?_ ?_; focus ((repeat' (first | exact trivial | exact wkE_refl _ | refine And.intro ?_ ?_)); done)) | refine RdN.intro _ rfl (by rfl) ?_); (conv => whnf))))
      refine brd_dec (fun _ => ?_) (fun h => absurd hk h)
      ((conv => whnf); (repeat ((first | refine VrN.norm (wrap_i64 (by omega)) ?_ | refine VrN.keep ?_ | refine DrawN.calm (by decide +kernel) ?_ | refine Nd.mk (by decide +kernel) ?_ | refine Nd.mk (by omega) ?_ | (refine Nd.mk ?_ ?_; focus ((repeat' (first | exact trivial | exact wkE_refl _ | refine And.intro ?_ ?_)); done)) | refine RdN.intro _ rfl (by rfl) ?_); (conv => whnf))))
      rw [← he]
      rfl
    · subst hk
      rw [bad_0] at he
      ((conv => whnf); (repeat ((first | refine VrN.norm (wrap_i64 (by omega)) ?_ | refine VrN.keep ?_ | refine DrawN.calm (by decide +kernel) ?_ | refine Nd.mk (by decide +kernel) ?_ | refine Nd.mk (by omega) ?_ | (refine Nd.mk ?_ ?_; focus ((repeat' (first | exact trivial | exact wkE_refl _ | refine And.intro ?_ ?_)); done)) | refine RdN.intro _ rfl (by rfl) ?_); (conv => whnf))))
      refine Nd.mk ⟨hsa, by omega, by omega⟩ ?_
      ((conv => whnf); (repeat ((first | refine VrN.norm (wrap_i64 (by omega)) ?_ | refine VrN.keep ?_ | refine DrawN.calm (by decide +kernel) ?_ | refine Nd.mk (by decide +kernel) ?_ | refine Nd.mk (by omega) ?_ | (refine Nd.mk ?_ ?_; focus ((repeat' (first | exact trivial | exact wkE_refl _ | refine And.intro ?_ ?_)); done)) | refine RdN.intro _ rfl (by rfl) ?_); (conv => whnf))))
      refine LdN.fld (.string (bs t)) rfl (fun w hw => hw.1) (by rw [Int.toNat_natCast]; exact partsC_get l i 2 (by decide) hp) ?_
      ((conv => whnf); (repeat ((first | refine VrN.norm (wrap_i64 (by omega)) ?_ | refine VrN.keep ?_ | refine DrawN.calm (by decide +kernel) ?_ | refine Nd.mk (by decide +kernel) ?_ | refine Nd.mk (by omega) ?_ | (refine Nd.mk ?_ ?_; focus ((repeat' (first | exact trivial | exact wkE_refl _ | refine And.intro ?_ ?_)); done)) | refine RdN.intro _ rfl (by rfl) ?_); (conv => whnf))))
      refine Nd.mk ⟨hsa, by omega, by omega⟩ ?_
      ((conv => whnf); (repeat ((first | refine VrN.norm (wrap_i64 (by omega)) ?_ | refine VrN.keep ?_ | refine DrawN.calm (by decide +kernel) ?_ | refine Nd.mk (by decide +kernel) ?_ | refine Nd.mk (by omega) ?_ | (refine Nd.mk ?_ ?_; focus ((repeat' (first | exact trivial | exact wkE_refl _ | refine And.intro ?_ ?_)); done)) | refine RdN.intro _ rfl (by rfl) ?_); (conv => whnf))))
      refine LdN.fld (.int .i64 0) rfl (fun w hw => hw.1) (by rw [Int.toNat_natCast]; exact partsC_get l i 0 (by decide) hp) ?_
      ((conv => whnf); (repeat ((first | refine VrN.norm (wrap_i64 (by omega)) ?_ | refine VrN.keep ?_ | refine DrawN.calm (by decide +kernel) ?_ | refine Nd.mk (by decide +kernel) ?_ | refine Nd.mk (by omega) ?_ | (refine Nd.mk ?_ ?_; focus ((repeat' (first | exact trivial | exact wkE_refl _ | refine And.intro ?_ ?_)); done)) | refine RdN.intro _ rfl (by rfl) ?_); (conv => whnf))))
      refine Nd.mk ⟨hsa, by omega, by omega⟩ ?_
      ((conv => whnf); (repeat ((first | refine VrN.norm (wrap_i64 (by omega)) ?_ | refine VrN.keep ?_ | refine DrawN.calm (by decide +kernel) ?_ | refine Nd.mk (by decide +kernel) ?_ | refine Nd.mk (by omega) ?_ | (refine Nd.mk ?_ ?_; focus ((repeat' (first | exact trivial | exact wkE_refl _ | refine And.intro ?_ ?_)); done)) | refine RdN.intro _ rfl (by rfl) ?_); (conv => whnf))))
      refine LdN.fld (.int .i64 0) rfl (fun w hw => hw.1) (by rw [Int.toNat_natCast]; exact partsC_get l i 0 (by decide) hp) ?_
      ((conv => whnf); (repeat ((first | refine VrN.norm (wrap_i64 (by omega)) ?_ | refine VrN.keep ?_ | refine DrawN.calm (by decide +kernel) ?_ | refine Nd.mk (by decide +kernel) ?_ | refine Nd.mk (by omega) ?_ | (refine Nd.mk ?_ ?_; focus ((repeat' (first | exact trivial | exact wkE_refl _ | refine And.intro ?_ ?_)); done)) | refine RdN.intro _ rfl (by rfl) ?_); (conv => whnf))))
      refine Nd.mk ⟨hsa, by omega, by omega⟩ ?_
      ((conv => whnf); (repeat ((first | refine VrN.norm (wrap_i64 (by omega)) ?_ | refine VrN.keep ?_ | refine DrawN.calm (by decide +kernel) ?_ | refine Nd.mk (by decide +kernel) ?_ | refine Nd.mk (by omega) ?_ | (refine Nd.mk ?_ ?_; focus ((repeat' (first | exact trivial | exact wkE_refl _ | refine And.intro ?_ ?_)); done)) | refine RdN.intro _ rfl (by rfl) ?_); (conv => whnf))))
      refine LdN.fld (.int .i64 0) rfl (fun w hw => hw.1) (by rw [Int.toNat_natCast]; exact partsC_get l i 0 (by decide) hp) ?_
      ((conv => whnf); (repeat ((first | refine VrN.norm (wrap_i64 (by omega)) ?_ | refine VrN.keep ?_ | refine DrawN.calm (by decide +kernel) ?_ | refine Nd.mk (by decide +kernel) ?_ | refine Nd.mk (by omega) ?_ | (refine Nd.mk ?_ ?_; focus ((repeat' (first | exact trivial | exact wkE_refl _ | refine And.intro ?_ ?_)); done)) | refine RdN.intro _ rfl (by rfl) ?_); (conv => whnf))))
      rw [empty_iff (by simp)]
      refine brd_intro (fun h2 => ?_) (fun h2 => ?_)
      · ((conv => whnf); (repeat ((first | refine VrN.norm (wrap_i64 (by omega)) ?_ | refine VrN.keep ?_ | refine DrawN.calm (by decide +kernel) ?_ | refine Nd.mk (by decide +kernel) ?_ | refine Nd.mk (by omega) ?_ | (refine Nd.mk ?_ ?_; focus ((repeat' (first | exact trivial | exact wkE_refl _ | refine And.intro ?_ ?_)); done)) | refine RdN.intro _ rfl (by rfl) ?_); (conv => whnf))))
        rw [← he, h2]
        rfl
      ((conv => whnf); (repeat ((first | refine VrN.norm (wrap_i64 (by omega)) ?_ | refine VrN.keep ?_ | refine DrawN.calm (by decide +kernel) ?_ | refine Nd.mk (by decide +kernel) ?_ | refine Nd.mk (by omega) ?_ | (refine Nd.mk ?_ ?_; focus ((repeat' (first | exact trivial | exact wkE_refl _ | refine And.intro ?_ ?_)); done)) | refine RdN.intro _ rfl (by rfl) ?_); (conv => whnf))))
      refine brd_dec (fun h3 => ?_) (fun h3 => ?_)
      · have hi1 : ∃ q, l[i - 1]? = some q := ⟨_, List.getElem?_eq_getElem (by omega)⟩
        obtain ⟨q, hq⟩ := hi1
        have hpv : pvA l i = (q.kind == 0) := by unfold pvA; rw [if_neg (by omega), hq]
        have hw1 : IntKind.wrap .i64 ((i : Int) - 1) = ((i - 1 : Nat) : Int) := by rw [wrap_i64 (by omega)]; omega
        rw [hpv, h2] at he
        ((conv => whnf); (repeat ((first | refine VrN.norm (wrap_i64 (by omega)) ?_ | refine VrN.keep ?_ | refine DrawN.calm (by decide +kernel) ?_ | refine Nd.mk (by decide +kernel) ?_ | refine Nd.mk (by omega) ?_ | (refine Nd.mk ?_ ?_; focus ((repeat' (first | exact trivial | exact wkE_refl _ | refine And.intro ?_ ?_)); done)) | refine RdN.intro _ rfl (by rfl) ?_); (conv => whnf))))
        rw [hw1]
        refine Nd.mk ⟨hsa, by omega, by omega⟩ ?_
        ((conv => whnf); (repeat ((first | refine VrN.norm (wrap_i64 (by omega)) ?_ | refine VrN.keep ?_ | refine DrawN.calm (by decide +kernel) ?_ | refine Nd.mk (by decide +kernel) ?_ | refine Nd.mk (by omega) ?_ | (refine Nd.mk ?_ ?_; focus ((repeat' (first | exact trivial | exact wkE_refl _ | refine And.intro ?_ ?_)); done)) | refine RdN.intro _ rfl (by rfl) ?_); (conv => whnf))))
        refine LdN.fld (.int .i64 q.kind) rfl (fun w hw => hw.1) (by rw [Int.toNat_natCast]; exact partsC_get l (i - 1) 0 (by decide) hq) ?_
        ((conv => whnf); (repeat ((first | refine VrN.norm (wrap_i64 (by omega)) ?_ | refine VrN.keep ?_ | refine DrawN.calm (by decide +kernel) ?_ | refine Nd.mk (by decide +kernel) ?_ | refine Nd.mk (by omega) ?_ | (refine Nd.mk ?_ ?_; focus ((repeat' (first | exact trivial | exact wkE_refl _ | refine And.intro ?_ ?_)); done)) | refine RdN.intro _ rfl (by rfl) ?_); (conv => whnf))))
        refine brd_eq (fun h4 => ?_) (fun h4 => ?_)
        · have h4 : (q.kind == 0) = true := by simpa using h4
          ((conv => whnf); (repeat ((first | refine VrN.norm (wrap_i64 (by omega)) ?_ | refine VrN.keep ?_ | refine DrawN.calm (by decide +kernel) ?_ | refine Nd.mk (by decide +kernel) ?_ | refine Nd.mk (by omega) ?_ | (refine Nd.mk ?_ ?_; focus ((repeat' (first | exact trivial | exact wkE_refl _ | refine And.intro ?_ ?_)); done)) | refine RdN.intro _ rfl (by rfl) ?_); (conv => whnf))))
          rw [← he, h4]
          rfl
        · have h4 : (q.kind == 0) = false := by simpa using h4
          ((conv => whnf); (repeat ((first | refine VrN.norm (wrap_i64 (by omega)) ?_ | refine VrN.keep ?_ | refine DrawN.calm (by decide +kernel) ?_ | refine Nd.mk (by decide +kernel) ?_ | refine Nd.mk (by omega) ?_ | (refine Nd.mk ?_ ?_; focus ((repeat' (first | exact trivial | exact wkE_refl _ | refine And.intro ?_ ?_)); done)) | refine RdN.intro _ rfl (by rfl) ?_); (conv => whnf))))
          refine ⟨i + 1, ⟨by omega, by rw [pvA_succ hp, ← he]; (rw [h4]; rfl)⟩, by omega, ?_, by (repeat' (first | exact trivial | exact wkE_refl _ | refine And.intro ?_ ?_))⟩
          (repeat' (first | exact trivial | refine And.intro (by with_reducible rfl) ?_ | (with_reducible exact wkC_refl _) | (with_reducible exact wkCs_refl _) | refine And.intro ?_ ?_))
          exact av_int (by first | omega | (rw [wrap_i64 (by omega)]; omega))
      · have hi0 : i = 0 := by omega
        have hpv : pvA l i = false := by unfold pvA; rw [if_pos hi0]
        rw [hpv, h2] at he
        ((conv => whnf); (repeat ((first | refine VrN.norm (wrap_i64 (by omega)) ?_ | refine VrN.keep ?_ | refine DrawN.calm (by decide +kernel) ?_ | refine Nd.mk (by decide +kernel) ?_ | refine Nd.mk (by omega) ?_ | (refine Nd.mk ?_ ?_; focus ((repeat' (first | exact trivial | exact wkE_refl _ | refine And.intro ?_ ?_)); done)) | refine RdN.intro _ rfl (by rfl) ?_); (conv => whnf))))
        refine ⟨i + 1, ⟨by omega, by rw [pvA_succ hp, ← he]; rfl⟩, by omega, ?_, by (repeat' (first | exact trivial | exact wkE_refl _ | refine And.intro ?_ ?_))⟩
        (repeat' (first | exact trivial | refine And.intro (by with_reducible rfl) ?_ | (with_reducible exact wkC_refl _) | (with_reducible exact wkCs_refl _) | refine And.intro ?_ ?_))
        exact av_int (by first | omega | (rw [wrap_i64 (by omega)]; omega))
    · subst hk
      rw [bad_1] at he
      -- a tag of kind 2 or 3
      ((conv => whnf); (repeat ((first | refine VrN.norm (wrap_i64 (by omega)) ?_ | refine VrN.keep ?_ | refine DrawN.calm (by decide +kernel) ?_ | refine Nd.mk (by decide +kernel) ?_ | refine Nd.mk (by omega) ?_ | (refine Nd.mk ?_ ?_; focus ((repeat' (first | exact trivial | exact wkE_refl _ | refine And.intro ?_ ?_)); done)) | refine RdN.intro _ rfl (by rfl) ?_); (conv => whnf))))
      refine Nd.mk ⟨hsa, by omega, by omega⟩ ?_
      ((conv => whnf); (repeat ((first | refine VrN.norm (wrap_i64 (by omega)) ?_ | refine VrN.keep ?_ | refine DrawN.calm (by decide +kernel) ?_ | refine Nd.mk (by decide +kernel) ?_ | refine Nd.mk (by omega) ?_ | (refine Nd.mk ?_ ?_; focus ((repeat' (first | exact trivial | exact wkE_refl _ | refine And.intro ?_ ?_)); done)) | refine RdN.intro _ rfl (by rfl) ?_); (conv => whnf))))
      refine LdN.fld (.string (bs t)) rfl (fun w hw => hw.1) (by rw [Int.toNat_natCast]; exact partsC_get l i 2 (by decide) hp) ?_
      ((conv => whnf); (repeat ((first | refine VrN.norm (wrap_i64 (by omega)) ?_ | refine VrN.keep ?_ | refine DrawN.calm (by decide +kernel) ?_ | refine Nd.mk (by decide +kernel) ?_ | refine Nd.mk (by omega) ?_ | (refine Nd.mk ?_ ?_; focus ((repeat' (first | exact trivial | exact wkE_refl _ | refine And.intro ?_ ?_)); done)) | refine RdN.intro _ rfl (by rfl) ?_); (conv => whnf))))
      refine Nd.mk ⟨hsa, by omega, by omega⟩ ?_
      ((conv => whnf); (repeat ((first | refine VrN.norm (wrap_i64 (by omega)) ?_ | refine VrN.keep ?_ | refine DrawN.calm (by decide +kernel) ?_ | refine Nd.mk (by decide +kernel) ?_ | refine Nd.mk (by omega) ?_ | (refine Nd.mk ?_ ?_; focus ((repeat' (first | exact trivial | exact wkE_refl _ | refine And.intro ?_ ?_)); done)) | refine RdN.intro _ rfl (by rfl) ?_); (conv => whnf))))
      refine LdN.fld (.int .i64 1) rfl (fun w hw => hw.1) (by rw [Int.toNat_natCast]; exact partsC_get l i 0 (by decide) hp) ?_
      ((conv => whnf); (repeat ((first | refine VrN.norm (wrap_i64 (by omega)) ?_ | refine VrN.keep ?_ | refine DrawN.calm (by decide +kernel) ?_ | refine Nd.mk (by decide +kernel) ?_ | refine Nd.mk (by omega) ?_ | (refine Nd.mk ?_ ?_; focus ((repeat' (first | exact trivial | exact wkE_refl _ | refine And.intro ?_ ?_)); done)) | refine RdN.intro _ rfl (by rfl) ?_); (conv => whnf))))
      refine Nd.mk ⟨hsa, by omega, by omega⟩ ?_
      ((conv => whnf); (repeat ((first | refine VrN.norm (wrap_i64 (by omega)) ?_ | refine VrN.keep ?_ | refine DrawN.calm (by decide +kernel) ?_ | refine Nd.mk (by decide +kernel) ?_ | refine Nd.mk (by omega) ?_ | (refine Nd.mk ?_ ?_; focus ((repeat' (first | exact trivial | exact wkE_refl _ | refine And.intro ?_ ?_)); done)) | refine RdN.intro _ rfl (by rfl) ?_); (conv => whnf))))
      refine LdN.fld (.int .i64 1) rfl (fun w hw => hw.1) (by rw [Int.toNat_natCast]; exact partsC_get l i 0 (by decide) hp) ?_
      ((conv => whnf); (repeat ((first | refine VrN.norm (wrap_i64 (by omega)) ?_ | refine VrN.keep ?_ | refine DrawN.calm (by decide +kernel) ?_ | refine Nd.mk (by decide +kernel) ?_ | refine Nd.mk (by omega) ?_ | (refine Nd.mk ?_ ?_; focus ((repeat' (first | exact trivial | exact wkE_refl _ | refine And.intro ?_ ?_)); done)) | refine RdN.intro _ rfl (by rfl) ?_); (conv => whnf))))
      refine Nd.mk ⟨hsa, by omega, by omega⟩ ?_
      ((conv => whnf); (repeat ((first | refine VrN.norm (wrap_i64 (by omega)) ?_ | refine VrN.keep ?_ | refine DrawN.calm (by decide +kernel) ?_ | refine Nd.mk (by decide +kernel) ?_ | refine Nd.mk (by omega) ?_ | (refine Nd.mk ?_ ?_; focus ((repeat' (first | exact trivial | exact wkE_refl _ | refine And.intro ?_ ?_)); done)) | refine RdN.intro _ rfl (by rfl) ?_); (conv => whnf))))
      refine LdN.fld (.int .i64 1) rfl (fun w hw => hw.1) (by rw [Int.toNat_natCast]; exact partsC_get l i 0 (by decide) hp) ?_
      ((conv => whnf); (repeat ((first | refine VrN.norm (wrap_i64 (by omega)) ?_ | refine VrN.keep ?_ | refine DrawN.calm (by decide +kernel) ?_ | refine Nd.mk (by decide +kernel) ?_ | refine Nd.mk (by omega) ?_ | (refine Nd.mk ?_ ?_; focus ((repeat' (first | exact trivial | exact wkE_refl _ | refine And.intro ?_ ?_)); done)) | refine RdN.intro _ rfl (by rfl) ?_); (conv => whnf))))
      (((conv => whnf); (repeat ((first | refine VrN.norm (wrap_i64 (by omega)) ?_ | refine VrN.keep ?_ | refine DrawN.calm (by decide +kernel) ?_ | refine Nd.mk (by decide +kernel) ?_ | refine Nd.mk (by omega) ?_ | (refine Nd.mk ?_ ?_; focus ((repeat' (first | exact trivial | exact wkE_refl _ | refine And.intro ?_ ?_)); done)) | refine RdN.intro _ rfl (by rfl) ?_); (conv => whnf)))); first | refine call1 (HasSuffix_c t [45] (by omega) _) ?_ | refine callQ (HasSuffix_c t [45] (by omega) _) ?_)
      rw [sfx1]
      ((conv => whnf); (repeat ((first | refine VrN.norm (wrap_i64 (by omega)) ?_ | refine VrN.keep ?_ | refine DrawN.calm (by decide +kernel) ?_ | refine Nd.mk (by decide +kernel) ?_ | refine Nd.mk (by omega) ?_ | (refine Nd.mk ?_ ?_; focus ((repeat' (first | exact trivial | exact wkE_refl _ | refine And.intro ?_ ?_)); done)) | refine RdN.intro _ rfl (by rfl) ?_); (conv => whnf))))
      refine brd_intro (fun h2 => ?_) (fun h2 => ?_)
      · ((conv => whnf); (repeat ((first | refine VrN.norm (wrap_i64 (by omega)) ?_ | refine VrN.keep ?_ | refine DrawN.calm (by decide +kernel) ?_ | refine Nd.mk (by decide +kernel) ?_ | refine Nd.mk (by omega) ?_ | (refine Nd.mk ?_ ?_; focus ((repeat' (first | exact trivial | exact wkE_refl _ | refine And.intro ?_ ?_)); done)) | refine RdN.intro _ rfl (by rfl) ?_); (conv => whnf))))
        rw [← he, h2]
        rfl
      (((conv => whnf); (repeat ((first | refine VrN.norm (wrap_i64 (by omega)) ?_ | refine VrN.keep ?_ | refine DrawN.calm (by decide +kernel) ?_ | refine Nd.mk (by decide +kernel) ?_ | refine Nd.mk (by omega) ?_ | (refine Nd.mk ?_ ?_; focus ((repeat' (first | exact trivial | exact wkE_refl _ | refine And.intro ?_ ?_)); done)) | refine RdN.intro _ rfl (by rfl) ?_); (conv => whnf)))); first | refine call1 (HasSuffix_c t [37] (by omega) _) ?_ | refine callQ (HasSuffix_c t [37] (by omega) _) ?_)
      rw [sfx1]
      ((conv => whnf); (repeat ((first | refine VrN.norm (wrap_i64 (by omega)) ?_ | refine VrN.keep ?_ | refine DrawN.calm (by decide +kernel) ?_ | refine Nd.mk (by decide +kernel) ?_ | refine Nd.mk (by omega) ?_ | (refine Nd.mk ?_ ?_; focus ((repeat' (first | exact trivial | exact wkE_refl _ | refine And.intro ?_ ?_)); done)) | refine RdN.intro _ rfl (by rfl) ?_); (conv => whnf))))
      refine brd_intro (fun h3 => ?_) (fun h3 => ?_)
      · ((conv => whnf); (repeat ((first | refine VrN.norm (wrap_i64 (by omega)) ?_ | refine VrN.keep ?_ | refine DrawN.calm (by decide +kernel) ?_ | refine Nd.mk (by decide +kernel) ?_ | refine Nd.mk (by omega) ?_ | (refine Nd.mk ?_ ?_; focus ((repeat' (first | exact trivial | exact wkE_refl _ | refine And.intro ?_ ?_)); done)) | refine RdN.intro _ rfl (by rfl) ?_); (conv => whnf))))
        rw [← he, h2, h3]
        rfl
      ((conv => whnf); (repeat ((first | refine VrN.norm (wrap_i64 (by omega)) ?_ | refine VrN.keep ?_ | refine DrawN.calm (by decide +kernel) ?_ | refine Nd.mk (by decide +kernel) ?_ | refine Nd.mk (by omega) ?_ | (refine Nd.mk ?_ ?_; focus ((repeat' (first | exact trivial | exact wkE_refl _ | refine And.intro ?_ ?_)); done)) | refine RdN.intro _ rfl (by rfl) ?_); (conv => whnf))))
      refine Nd.mk ⟨hsa, by omega, by omega⟩ ?_
      ((conv => whnf); (repeat ((first | refine VrN.norm (wrap_i64 (by omega)) ?_ | refine VrN.keep ?_ | refine DrawN.calm (by decide +kernel) ?_ | refine Nd.mk (by decide +kernel) ?_ | refine Nd.mk (by omega) ?_ | (refine Nd.mk ?_ ?_; focus ((repeat' (first | exact trivial | exact wkE_refl _ | refine And.intro ?_ ?_)); done)) | refine RdN.intro _ rfl (by rfl) ?_); (conv => whnf))))
      refine LdN.fld (.int .i64 1) rfl (fun w hw => hw.1) (by rw [Int.toNat_natCast]; exact partsC_get l i 0 (by decide) hp) ?_
      ((conv => whnf); (repeat ((first | refine VrN.norm (wrap_i64 (by omega)) ?_ | refine VrN.keep ?_ | refine DrawN.calm (by decide +kernel) ?_ | refine Nd.mk (by decide +kernel) ?_ | refine Nd.mk (by omega) ?_ | (refine Nd.mk ?_ ?_; focus ((repeat' (first | exact trivial | exact wkE_refl _ | refine And.intro ?_ ?_)); done)) | refine RdN.intro _ rfl (by rfl) ?_); (conv => whnf))))
      rw [h2, h3] at he
      rw [empty_iff (by simp)]
      refine brd_intro (fun h4 => ?_) (fun h4 => ?_)
      · have : t = [] := by simpa using h4
        subst this
        ((conv => whnf); (repeat ((first | refine VrN.norm (wrap_i64 (by omega)) ?_ | refine VrN.keep ?_ | refine DrawN.calm (by decide +kernel) ?_ | refine Nd.mk (by decide +kernel) ?_ | refine Nd.mk (by omega) ?_ | (refine Nd.mk ?_ ?_; focus ((repeat' (first | exact trivial | exact wkE_refl _ | refine And.intro ?_ ?_)); done)) | refine RdN.intro _ rfl (by rfl) ?_); (conv => whnf))))
        rw [← he]
        rfl
      obtain ⟨c, r, rfl⟩ : ∃ c r, t = c :: r := by
        cases t with
        | nil => simp at h4
        | cons c r => exact ⟨c, r, rfl⟩
      have hb0 : byteAt (bs (c :: r)) 0 = (c.toNat : Int) := byteAt_get rfl
      have hdc : hdB (c :: r) = decide (Lib.indexByte [61, 35, 37, 45] c ≥ 0) := (idx4 c).symm
      rw [hdc] at he
      ((conv => whnf); (repeat ((first | refine VrN.norm (wrap_i64 (by omega)) ?_ | refine VrN.keep ?_ | refine DrawN.calm (by decide +kernel) ?_ | refine Nd.mk (by decide +kernel) ?_ | refine Nd.mk (by omega) ?_ | (refine Nd.mk ?_ ?_; focus ((repeat' (first | exact trivial | exact wkE_refl _ | refine And.intro ?_ ?_)); done)) | refine RdN.intro _ rfl (by rfl) ?_); (conv => whnf))))
      refine Nd.mk ⟨by omega, by rw [bs_size]; simp⟩ ?_
      rw [show ((0 : Int).toNat) = 0 from rfl, hb0]
      (((conv => whnf); (repeat ((first | refine VrN.norm (wrap_i64 (by omega)) ?_ | refine VrN.keep ?_ | refine DrawN.calm (by decide +kernel) ?_ | refine Nd.mk (by decide +kernel) ?_ | refine Nd.mk (by omega) ?_ | (refine Nd.mk ?_ ?_; focus ((repeat' (first | exact trivial | exact wkE_refl _ | refine And.intro ?_ ?_)); done)) | refine RdN.intro _ rfl (by rfl) ?_); (conv => whnf)))); first | refine call1 (IndexByte_c [61, 35, 37, 45] c _) ?_ | refine callQ (IndexByte_c [61, 35, 37, 45] c _) ?_)
      ((conv => whnf); (repeat ((first | refine VrN.norm (wrap_i64 (by omega)) ?_ | refine VrN.keep ?_ | refine DrawN.calm (by decide +kernel) ?_ | refine Nd.mk (by decide +kernel) ?_ | refine Nd.mk (by omega) ?_ | (refine Nd.mk ?_ ?_; focus ((repeat' (first | exact trivial | exact wkE_refl _ | refine And.intro ?_ ?_)); done)) | refine RdN.intro _ rfl (by rfl) ?_); (conv => whnf))))
      refine brd_dec (fun h5 => ?_) (fun h5 => ?_)
      · rw [decide_eq_true h5] at he
        ((conv => whnf); (repeat ((first | refine VrN.norm (wrap_i64 (by omega)) ?_ | refine VrN.keep ?_ | refine DrawN.calm (by decide +kernel) ?_ | refine Nd.mk (by decide +kernel) ?_ | refine Nd.mk (by omega) ?_ | (refine Nd.mk ?_ ?_; focus ((repeat' (first | exact trivial | exact wkE_refl _ | refine And.intro ?_ ?_)); done)) | refine RdN.intro _ rfl (by rfl) ?_); (conv => whnf))))
        rw [← he]
        rfl
      · rw [decide_eq_false h5] at he
        ((conv => whnf); (repeat ((first | refine VrN.norm (wrap_i64 (by omega)) ?_ | refine VrN.keep ?_ | refine DrawN.calm (by decide +kernel) ?_ | refine Nd.mk (by decide +kernel) ?_ | refine Nd.mk (by omega) ?_ | (refine Nd.mk ?_ ?_; focus ((repeat' (first | exact trivial | exact wkE_refl _ | refine And.intro ?_ ?_)); done)) | refine RdN.intro _ rfl (by rfl) ?_); (conv => whnf))))
        refine ⟨i + 1, ⟨by omega, by rw [pvA_succ hp, ← he]; rfl⟩, by omega, ?_, by (repeat' (first | exact trivial | exact wkE_refl _ | refine And.intro ?_ ?_))⟩
        (repeat' (first | exact trivial | refine And.intro (by with_reducible rfl) ?_ | (with_reducible exact wkC_refl _) | (with_reducible exact wkCs_refl _) | refine And.intro ?_ ?_))
        exact av_int (by first | omega | (rw [wrap_i64 (by omega)]; omega))
    · subst hk
      rw [bad_2] at he
      -- a tag of kind 2 or 3
      ((conv => whnf); (repeat ((first | refine VrN.norm (wrap_i64 (by omega)) ?_ | refine VrN.keep ?_ | refine DrawN.calm (by decide +kernel) ?_ | refine Nd.mk (by decide +kernel) ?_ | refine Nd.mk (by omega) ?_ | (refine Nd.mk ?_ ?_; focus ((repeat' (first | exact trivial | exact wkE_refl _ | refine And.intro ?_ ?_)); done)) | refine RdN.intro _ rfl (by rfl) ?_); (conv => whnf))))
      refine Nd.mk ⟨hsa, by omega, by omega⟩ ?_
      ((conv => whnf); (repeat ((first | refine VrN.norm (wrap_i64 (by omega)) ?_ | refine VrN.keep ?_ | refine DrawN.calm (by decide +kernel) ?_ | refine Nd.mk (by decide +kernel) ?_ | refine Nd.mk (by omega) ?_ | (refine Nd.mk ?_ ?_; focus ((repeat' (first | exact trivial | exact wkE_refl _ | refine And.intro ?_ ?_)); done)) | refine RdN.intro _ rfl (by rfl) ?_); (conv => whnf))))
      refine LdN.fld (.string (bs t)) rfl (fun w hw => hw.1) (by rw [Int.toNat_natCast]; exact partsC_get l i 2 (by decide) hp) ?_
      ((conv => whnf); (repeat ((first | refine VrN.norm (wrap_i64 (by omega)) ?_ | refine VrN.keep ?_ | refine DrawN.calm (by decide +kernel) ?_ | refine Nd.mk (by decide +kernel) ?_ | refine Nd.mk (by omega) ?_ | (refine Nd.mk ?_ ?_; focus ((repeat' (first | exact trivial | exact wkE_refl _ | refine And.intro ?_ ?_)); done)) | refine RdN.intro _ rfl (by rfl) ?_); (conv => whnf))))
      refine Nd.mk ⟨hsa, by omega, by omega⟩ ?_
      ((conv => whnf); (repeat ((first | refine VrN.norm (wrap_i64 (by omega)) ?_ | refine VrN.keep ?_ | refine DrawN.calm (by decide +kernel) ?_ | refine Nd.mk (by decide +kernel) ?_ | refine Nd.mk (by omega) ?_ | (refine Nd.mk ?_ ?_; focus ((repeat' (first | exact trivial | exact wkE_refl _ | refine And.intro ?_ ?_)); done)) | refine RdN.intro _ rfl (by rfl) ?_); (conv => whnf))))
      refine LdN.fld (.int .i64 2) rfl (fun w hw => hw.1) (by rw [Int.toNat_natCast]; exact partsC_get l i 0 (by decide) hp) ?_
      ((conv => whnf); (repeat ((first | refine VrN.norm (wrap_i64 (by omega)) ?_ | refine VrN.keep ?_ | refine DrawN.calm (by decide +kernel) ?_ | refine Nd.mk (by decide +kernel) ?_ | refine Nd.mk (by omega) ?_ | (refine Nd.mk ?_ ?_; focus ((repeat' (first | exact trivial | exact wkE_refl _ | refine And.intro ?_ ?_)); done)) | refine RdN.intro _ rfl (by rfl) ?_); (conv => whnf))))
      refine Nd.mk ⟨hsa, by omega, by omega⟩ ?_
      ((conv => whnf); (repeat ((first | refine VrN.norm (wrap_i64 (by omega)) ?_ | refine VrN.keep ?_ | refine DrawN.calm (by decide +kernel) ?_ | refine Nd.mk (by decide +kernel) ?_ | refine Nd.mk (by omega) ?_ | (refine Nd.mk ?_ ?_; focus ((repeat' (first | exact trivial | exact wkE_refl _ | refine And.intro ?_ ?_)); done)) | refine RdN.intro _ rfl (by rfl) ?_); (conv => whnf))))
      refine LdN.fld (.int .i64 2) rfl (fun w hw => hw.1) (by rw [Int.toNat_natCast]; exact partsC_get l i 0 (by decide) hp) ?_
      ((conv => whnf); (repeat ((first | refine VrN.norm (wrap_i64 (by omega)) ?_ | refine VrN.keep ?_ | refine DrawN.calm (by decide +kernel) ?_ | refine Nd.mk (by decide +kernel) ?_ | refine Nd.mk (by omega) ?_ | (refine Nd.mk ?_ ?_; focus ((repeat' (first | exact trivial | exact wkE_refl _ | refine And.intro ?_ ?_)); done)) | refine RdN.intro _ rfl (by rfl) ?_); (conv => whnf))))
      refine Nd.mk ⟨hsa, by omega, by omega⟩ ?_
      ((conv => whnf); (repeat ((first | refine VrN.norm (wrap_i64 (by omega)) ?_ | refine VrN.keep ?_ | refine DrawN.calm (by decide +kernel) ?_ | refine Nd.mk (by decide +kernel) ?_ | refine Nd.mk (by omega) ?_ | (refine Nd.mk ?_ ?_; focus ((repeat' (first | exact trivial | exact wkE_refl _ | refine And.intro ?_ ?_)); done)) | refine RdN.intro _ rfl (by rfl) ?_); (conv => whnf))))
      refine LdN.fld (.int .i64 2) rfl (fun w hw => hw.1) (by rw [Int.toNat_natCast]; exact partsC_get l i 0 (by decide) hp) ?_
      ((conv => whnf); (repeat ((first | refine VrN.norm (wrap_i64 (by omega)) ?_ | refine VrN.keep ?_ | refine DrawN.calm (by decide +kernel) ?_ | refine Nd.mk (by decide +kernel) ?_ | refine Nd.mk (by omega) ?_ | (refine Nd.mk ?_ ?_; focus ((repeat' (first | exact trivial | exact wkE_refl _ | refine And.intro ?_ ?_)); done)) | refine RdN.intro _ rfl (by rfl) ?_); (conv => whnf))))
      (((conv => whnf); (repeat ((first | refine VrN.norm (wrap_i64 (by omega)) ?_ | refine VrN.keep ?_ | refine DrawN.calm (by decide +kernel) ?_ | refine Nd.mk (by decide +kernel) ?_ | refine Nd.mk (by omega) ?_ | (refine Nd.mk ?_ ?_; focus ((repeat' (first | exact trivial | exact wkE_refl _ | refine And.intro ?_ ?_)); done)) | refine RdN.intro _ rfl (by rfl) ?_); (conv => whnf)))); first | refine call1 (HasSuffix_c t [45] (by omega) _) ?_ | refine callQ (HasSuffix_c t [45] (by omega) _) ?_)
      rw [sfx1]
      ((conv => whnf); (repeat ((first | refine VrN.norm (wrap_i64 (by omega)) ?_ | refine VrN.keep ?_ | refine DrawN.calm (by decide +kernel) ?_ | refine Nd.mk (by decide +kernel) ?_ | refine Nd.mk (by omega) ?_ | (refine Nd.mk ?_ ?_; focus ((repeat' (first | exact trivial | exact wkE_refl _ | refine And.intro ?_ ?_)); done)) | refine RdN.intro _ rfl (by rfl) ?_); (conv => whnf))))
      refine brd_intro (fun h2 => ?_) (fun h2 => ?_)
      · ((conv => whnf); (repeat ((first | refine VrN.norm (wrap_i64 (by omega)) ?_ | refine VrN.keep ?_ | refine DrawN.calm (by decide +kernel) ?_ | refine Nd.mk (by decide +kernel) ?_ | refine Nd.mk (by omega) ?_ | (refine Nd.mk ?_ ?_; focus ((repeat' (first | exact trivial | exact wkE_refl _ | refine And.intro ?_ ?_)); done)) | refine RdN.intro _ rfl (by rfl) ?_); (conv => whnf))))
        rw [← he, h2]
        rfl
      (((conv => whnf); (repeat ((first | refine VrN.norm (wrap_i64 (by omega)) ?_ | refine VrN.keep ?_ | refine DrawN.calm (by decide +kernel) ?_ | refine Nd.mk (by decide +kernel) ?_ | refine Nd.mk (by omega) ?_ | (refine Nd.mk ?_ ?_; focus ((repeat' (first | exact trivial | exact wkE_refl _ | refine And.intro ?_ ?_)); done)) | refine RdN.intro _ rfl (by rfl) ?_); (conv => whnf)))); first | refine call1 (HasSuffix_c t [37] (by omega) _) ?_ | refine callQ (HasSuffix_c t [37] (by omega) _) ?_)
      rw [sfx1]
      ((conv => whnf); (repeat ((first | refine VrN.norm (wrap_i64 (by omega)) ?_ | refine VrN.keep ?_ | refine DrawN.calm (by decide +kernel) ?_ | refine Nd.mk (by decide +kernel) ?_ | refine Nd.mk (by omega) ?_ | (refine Nd.mk ?_ ?_; focus ((repeat' (first | exact trivial | exact wkE_refl _ | refine And.intro ?_ ?_)); done)) | refine RdN.intro _ rfl (by rfl) ?_); (conv => whnf))))
      refine brd_intro (fun h3 => ?_) (fun h3 => ?_)
      · ((conv => whnf); (repeat ((first | refine VrN.norm (wrap_i64 (by omega)) ?_ | refine VrN.keep ?_ | refine DrawN.calm (by decide +kernel) ?_ | refine Nd.mk (by decide +kernel) ?_ | refine Nd.mk (by omega) ?_ | (refine Nd.mk ?_ ?_; focus ((repeat' (first | exact trivial | exact wkE_refl _ | refine And.intro ?_ ?_)); done)) | refine RdN.intro _ rfl (by rfl) ?_); (conv => whnf))))
        rw [← he, h2, h3]
        rfl
      ((conv => whnf); (repeat ((first | refine VrN.norm (wrap_i64 (by omega)) ?_ | refine VrN.keep ?_ | refine DrawN.calm (by decide +kernel) ?_ | refine Nd.mk (by decide +kernel) ?_ | refine Nd.mk (by omega) ?_ | (refine Nd.mk ?_ ?_; focus ((repeat' (first | exact trivial | exact wkE_refl _ | refine And.intro ?_ ?_)); done)) | refine RdN.intro _ rfl (by rfl) ?_); (conv => whnf))))
      refine Nd.mk ⟨hsa, by omega, by omega⟩ ?_
      ((conv => whnf); (repeat ((first | refine VrN.norm (wrap_i64 (by omega)) ?_ | refine VrN.keep ?_ | refine DrawN.calm (by decide +kernel) ?_ | refine Nd.mk (by decide +kernel) ?_ | refine Nd.mk (by omega) ?_ | (refine Nd.mk ?_ ?_; focus ((repeat' (first | exact trivial | exact wkE_refl _ | refine And.intro ?_ ?_)); done)) | refine RdN.intro _ rfl (by rfl) ?_); (conv => whnf))))
      refine LdN.fld (.int .i64 2) rfl (fun w hw => hw.1) (by rw [Int.toNat_natCast]; exact partsC_get l i 0 (by decide) hp) ?_
      ((conv => whnf); (repeat ((first | refine VrN.norm (wrap_i64 (by omega)) ?_ | refine VrN.keep ?_ | refine DrawN.calm (by decide +kernel) ?_ | refine Nd.mk (by decide +kernel) ?_ | refine Nd.mk (by omega) ?_ | (refine Nd.mk ?_ ?_; focus ((repeat' (first | exact trivial | exact wkE_refl _ | refine And.intro ?_ ?_)); done)) | refine RdN.intro _ rfl (by rfl) ?_); (conv => whnf))))
      rw [h2, h3] at he
      refine ⟨i + 1, ⟨by omega, by rw [pvA_succ hp, ← he]; rfl⟩, by omega, ?_, by (repeat' (first | exact trivial | exact wkE_refl _ | refine And.intro ?_ ?_))⟩
      (repeat' (first | exact trivial | refine And.intro (by with_reducible rfl) ?_ | (with_reducible exact wkC_refl _) | (with_reducible exact wkCs_refl _) | refine And.intro ?_ ?_))
      exact av_int (by first | omega | (rw [wrap_i64 (by omega)]; omega))
    · subst hk
      rw [bad_3] at he
      -- a tag of kind 2 or 3
      ((conv => whnf); (repeat ((first | refine VrN.norm (wrap_i64 (by omega)) ?_ | refine VrN.keep ?_ | refine DrawN.calm (by decide +kernel) ?_ | refine Nd.mk (by decide +kernel) ?_ | refine Nd.mk (by omega) ?_ | (refine Nd.mk ?_ ?_; focus ((repeat' (first | exact trivial | exact wkE_refl _ | refine And.intro ?_ ?_)); done)) | refine RdN.intro _ rfl (by rfl) ?_); (conv => whnf))))
      refine Nd.mk ⟨hsa, by omega, by omega⟩ ?_
      ((conv => whnf); (repeat ((first | refine VrN.norm (wrap_i64 (by omega)) ?_ | refine VrN.keep ?_ | refine DrawN.calm (by decide +kernel) ?_ | refine Nd.mk (by decide +kernel) ?_ | refine Nd.mk (by omega) ?_ | (refine Nd.mk ?_ ?_; focus ((repeat' (first | exact trivial | exact wkE_refl _ | refine And.intro ?_ ?_)); done)) | refine RdN.intro _ rfl (by rfl) ?_); (conv => whnf))))
      refine LdN.fld (.string (bs t)) rfl (fun w hw => hw.1) (by rw [Int.toNat_natCast]; exact partsC_get l i 2 (by decide) hp) ?_
      ((conv => whnf); (repeat ((first | refine VrN.norm (wrap_i64 (by omega)) ?_ | refine VrN.keep ?_ | refine DrawN.calm (by decide +kernel) ?_ | refine Nd.mk (by decide +kernel) ?_ | refine Nd.mk (by omega) ?_ | (refine Nd.mk ?_ ?_; focus ((repeat' (first | exact trivial | exact wkE_refl _ | refine And.intro ?_ ?_)); done)) | refine RdN.intro _ rfl (by rfl) ?_); (conv => whnf))))
      refine Nd.mk ⟨hsa, by omega, by omega⟩ ?_
      ((conv => whnf); (repeat ((first | refine VrN.norm (wrap_i64 (by omega)) ?_ | refine VrN.keep ?_ | refine DrawN.calm (by decide +kernel) ?_ | refine Nd.mk (by decide +kernel) ?_ | refine Nd.mk (by omega) ?_ | (refine Nd.mk ?_ ?_; focus ((repeat' (first | exact trivial | exact wkE_refl _ | refine And.intro ?_ ?_)); done)) | refine RdN.intro _ rfl (by rfl) ?_); (conv => whnf))))
      refine LdN.fld (.int .i64 3) rfl (fun w hw => hw.1) (by rw [Int.toNat_natCast]; exact partsC_get l i 0 (by decide) hp) ?_
      ((conv => whnf); (repeat ((first | refine VrN.norm (wrap_i64 (by omega)) ?_ | refine VrN.keep ?_ | refine DrawN.calm (by decide +kernel) ?_ | refine Nd.mk (by decide +kernel) ?_ | refine Nd.mk (by omega) ?_ | (refine Nd.mk ?_ ?_; focus ((repeat' (first | exact trivial | exact wkE_refl _ | refine And.intro ?_ ?_)); done)) | refine RdN.intro _ rfl (by rfl) ?_); (conv => whnf))))
      refine Nd.mk ⟨hsa, by omega, by omega⟩ ?_
      ((conv => whnf); (repeat ((first | refine VrN.norm (wrap_i64 (by omega)) ?_ | refine VrN.keep ?_ | refine DrawN.calm (by decide +kernel) ?_ | refine Nd.mk (by decide +kernel) ?_ | refine Nd.mk (by omega) ?_ | (refine Nd.mk ?_ ?_; focus ((repeat' (first | exact trivial | exact wkE_refl _ | refine And.intro ?_ ?_)); done)) | refine RdN.intro _ rfl (by rfl) ?_); (conv => whnf))))
      refine LdN.fld (.int .i64 3) rfl (fun w hw => hw.1) (by rw [Int.toNat_natCast]; exact partsC_get l i 0 (by decide) hp) ?_
      ((conv => whnf); (repeat ((first | refine VrN.norm (wrap_i64 (by omega)) ?_ | refine VrN.keep ?_ | refine DrawN.calm (by decide +kernel) ?_ | refine Nd.mk (by decide +kernel) ?_ | refine Nd.mk (by omega) ?_ | (refine Nd.mk ?_ ?_; focus ((repeat' (first | exact trivial | exact wkE_refl _ | refine And.intro ?_ ?_)); done)) | refine RdN.intro _ rfl (by rfl) ?_); (conv => whnf))))
      refine Nd.mk ⟨hsa, by omega, by omega⟩ ?_
      ((conv => whnf); (repeat ((first | refine VrN.norm (wrap_i64 (by omega)) ?_ | refine VrN.keep ?_ | refine DrawN.calm (by decide +kernel) ?_ | refine Nd.mk (by decide +kernel) ?_ | refine Nd.mk (by omega) ?_ | (refine Nd.mk ?_ ?_; focus ((repeat' (first | exact trivial | exact wkE_refl _ | refine And.intro ?_ ?_)); done)) | refine RdN.intro _ rfl (by rfl) ?_); (conv => whnf))))
      refine LdN.fld (.int .i64 3) rfl (fun w hw => hw.1) (by rw [Int.toNat_natCast]; exact partsC_get l i 0 (by decide) hp) ?_
      ((conv => whnf); (repeat ((first | refine VrN.norm (wrap_i64 (by omega)) ?_ | refine VrN.keep ?_ | refine DrawN.calm (by decide +kernel) ?_ | refine Nd.mk (by decide +kernel) ?_ | refine Nd.mk (by omega) ?_ | (refine Nd.mk ?_ ?_; focus ((repeat' (first | exact trivial | exact wkE_refl _ | refine And.intro ?_ ?_)); done)) | refine RdN.intro _ rfl (by rfl) ?_); (conv => whnf))))
      (((conv => whnf); (repeat ((first | refine VrN.norm (wrap_i64 (by omega)) ?_ | refine VrN.keep ?_ | refine DrawN.calm (by decide +kernel) ?_ | refine Nd.mk (by decide +kernel) ?_ | refine Nd.mk (by omega) ?_ | (refine Nd.mk ?_ ?_; focus ((repeat' (first | exact trivial | exact wkE_refl _ | refine And.intro ?_ ?_)); done)) | refine RdN.intro _ rfl (by rfl) ?_); (conv => whnf)))); first | refine call1 (HasSuffix_c t [45] (by omega) _) ?_ | refine callQ (HasSuffix_c t [45] (by omega) _) ?_)
      rw [sfx1]
      ((conv => whnf); (repeat ((first | refine VrN.norm (wrap_i64 (by omega)) ?_ | refine VrN.keep ?_ | refine DrawN.calm (by decide +kernel) ?_ | refine Nd.mk (by decide +kernel) ?_ | refine Nd.mk (by omega) ?_ | (refine Nd.mk ?_ ?_; focus ((repeat' (first | exact trivial | exact wkE_refl _ | refine And.intro ?_ ?_)); done)) | refine RdN.intro _ rfl (by rfl) ?_); (conv => whnf))))
      refine brd_intro (fun h2 => ?_) (fun h2 => ?_)
      · ((conv => whnf); (repeat ((first | refine VrN.norm (wrap_i64 (by omega)) ?_ | refine VrN.keep ?_ | refine DrawN.calm (by decide +kernel) ?_ | refine Nd.mk (by decide +kernel) ?_ | refine Nd.mk (by omega) ?_ | (refine Nd.mk ?_ ?_; focus ((repeat' (first | exact trivial | exact wkE_refl _ | refine And.intro ?_ ?_)); done)) | refine RdN.intro _ rfl (by rfl) ?_); (conv => whnf))))
        rw [← he, h2]
        rfl
      (((conv => whnf); (repeat ((first | refine VrN.norm (wrap_i64 (by omega)) ?_ | refine VrN.keep ?_ | refine DrawN.calm (by decide +kernel) ?_ | refine Nd.mk (by decide +kernel) ?_ | refine Nd.mk (by omega) ?_ | (refine Nd.mk ?_ ?_; focus ((repeat' (first | exact trivial | exact wkE_refl _ | refine And.intro ?_ ?_)); done)) | refine RdN.intro _ rfl (by rfl) ?_); (conv => whnf)))); first | refine call1 (HasSuffix_c t [37] (by omega) _) ?_ | refine callQ (HasSuffix_c t [37] (by omega) _) ?_)
      rw [sfx1]
      ((conv => whnf); (repeat ((first | refine VrN.norm (wrap_i64 (by omega)) ?_ | refine VrN.keep ?_ | refine DrawN.calm (by decide +kernel) ?_ | refine Nd.mk (by decide +kernel) ?_ | refine Nd.mk (by omega) ?_ | (refine Nd.mk ?_ ?_; focus ((repeat' (first | exact trivial | exact wkE_refl _ | refine And.intro ?_ ?_)); done)) | refine RdN.intro _ rfl (by rfl) ?_); (conv => whnf))))
      refine brd_intro (fun h3 => ?_) (fun h3 => ?_)
      · ((conv => whnf); (repeat ((first | refine VrN.norm (wrap_i64 (by omega)) ?_ | refine VrN.keep ?_ | refine DrawN.calm (by decide +kernel) ?_ | refine Nd.mk (by decide +kernel) ?_ | refine Nd.mk (by omega) ?_ | (refine Nd.mk ?_ ?_; focus ((repeat' (first | exact trivial | exact wkE_refl _ | refine And.intro ?_ ?_)); done)) | refine RdN.intro _ rfl (by rfl) ?_); (conv => whnf))))
        rw [← he, h2, h3]
        rfl
      ((conv => whnf); (repeat ((first | refine VrN.norm (wrap_i64 (by omega)) ?_ | refine VrN.keep ?_ | refine DrawN.calm (by decide +kernel) ?_ | refine Nd.mk (by decide +kernel) ?_ | refine Nd.mk (by omega) ?_ | (refine Nd.mk ?_ ?_; focus ((repeat' (first | exact trivial | exact wkE_refl _ | refine And.intro ?_ ?_)); done)) | refine RdN.intro _ rfl (by rfl) ?_); (conv => whnf))))
      refine Nd.mk ⟨hsa, by omega, by omega⟩ ?_
      ((conv => whnf); (repeat ((first | refine VrN.norm (wrap_i64 (by omega)) ?_ | refine VrN.keep ?_ | refine DrawN.calm (by decide +kernel) ?_ | refine Nd.mk (by decide +kernel) ?_ | refine Nd.mk (by omega) ?_ | (refine Nd.mk ?_ ?_; focus ((repeat' (first | exact trivial | exact wkE_refl _ | refine And.intro ?_ ?_)); done)) | refine RdN.intro _ rfl (by rfl) ?_); (conv => whnf))))
      refine LdN.fld (.int .i64 3) rfl (fun w hw => hw.1) (by rw [Int.toNat_natCast]; exact partsC_get l i 0 (by decide) hp) ?_
      ((conv => whnf); (repeat ((first | refine VrN.norm (wrap_i64 (by omega)) ?_ | refine VrN.keep ?_ | refine DrawN.calm (by decide +kernel) ?_ | refine Nd.mk (by decide +kernel) ?_ | refine Nd.mk (by omega) ?_ | (refine Nd.mk ?_ ?_; focus ((repeat' (first | exact trivial | exact wkE_refl _ | refine And.intro ?_ ?_)); done)) | refine RdN.intro _ rfl (by rfl) ?_); (conv => whnf))))
      rw [h2, h3] at he
      refine ⟨i + 1, ⟨by omega, by rw [pvA_succ hp, ← he]; rfl⟩, by omega, ?_, by (repeat' (first | exact trivial | exact wkE_refl _ | refine And.intro ?_ ?_))⟩
      (repeat' (first | exact trivial | refine And.intro (by with_reducible rfl) ?_ | (with_reducible exact wkC_refl _) | (with_reducible exact wkCs_refl _) | refine And.intro ?_ ?_))
      exact av_int (by first | omega | (rw [wrap_i64 (by omega)]; omega))
  · have hil : i = l.length := by omega
    subst hil
    rw [List.drop_length] at he
    ((conv => whnf); (repeat ((first | refine VrN.norm (wrap_i64 (by omega)) ?_ | refine VrN.keep ?_ | refine DrawN.calm (by decide +kernel) ?_ | refine Nd.mk (by decide +kernel) ?_ | refine Nd.mk (by omega) ?_ | (refine Nd.mk ?_ ?_; focus ((repeat' (first | exact trivial | exact wkE_refl _ | refine And.intro ?_ ?_)); done)) | refine RdN.intro _ rfl (by rfl) ?_); (conv => whnf))))
    rw [← he]
    rfl
end Go.Proofs.YtfcjgklghgpddaaDoor
