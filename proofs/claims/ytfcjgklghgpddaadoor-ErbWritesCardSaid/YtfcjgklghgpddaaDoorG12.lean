/-
  Contracts: parts compared; the chapter's example; the law ErbEscapes.
-/
import Derived.Test.YtfcjgklghgpddaaDoorG11
import Derived.Test.YtfcjgklghgpddaaDoorG3
namespace Go.Proofs.YtfcjgklghgpddaaDoor
open Go.AX Go.RowKit Go.Erb
set_option maxRecDepth 20000

def sameP (lines : Bool) (a b : Part) : Bool := a.kind == b.kind && (a.text == b.text && (!lines || a.line == b.line))
def sameB (lines : Bool) : List Part → List Part → Bool
  | [], [] => true
  | a :: l, b :: m => sameP lines a b && sameB lines l m
  | _, _ => false
theorem sameB_len {lines : Bool} : ∀ {l m : List Part}, l.length ≠ m.length → sameB lines l m = false
  | [], [], h => absurd rfl h
  | [], _ :: _, _ => rfl
  | _ :: _, [], _ => rfl
  | a :: l, b :: m, h => by simp [sameB, sameB_len (lines := lines) (l := l) (m := m) (by simpa using h)]
theorem sameB_refl (lines : Bool) : ∀ l : List Part, sameB lines l l = true
  | [] => rfl
  | a :: l => by simp [sameB, sameP, sameB_refl lines l]

theorem same_c (a : Option Addr) (ca : Nat) (l : List Part) (b : Option Addr) (cb : Nat) (m : List Part) (lines : Bool) (hl : l.length ≤ 1000000) (ha : a = none → l = []) (hb : b = none → m = []) :
    ∀ H, (∀ w, Facts H w → SlAt a (l.length * 3) (partsC l) w ∧ SlAt b (m.length * 3) (partsC m) w) →
    SpecH Tryd.prog 10 (pvs [.slice a l.length ca, .slice b m.length cb, .bool lines]) H (Ret (.bool (sameB lines l m)) H) := by
  refine factC hm Tryd.func10 (by kernel_rfl) rfl rfl ?_
  ((conv => whnf); (repeat ((first | refine VrN.norm (wrap_i64 (by omega)) ?_ | refine VrN.keep ?_ | refine DrawN.calm (by decide +kernel) ?_ | refine Nd.mk (by decide +kernel) ?_ | refine Nd.mk (by omega) ?_ | (refine Nd.mk ?_ ?_; focus ((repeat' (first | exact trivial | exact wkE_refl _ | refine And.intro ?_ ?_)); done)) | refine RdN.intro _ rfl (by rfl) ?_); (conv => whnf))))
  refine brd_ne (fun h0 => ?_) (fun h0 => ?_)
  · rw [sameB_len (fun h => h0 (by omega))]
    ((conv => whnf); (repeat ((first | refine VrN.norm (wrap_i64 (by omega)) ?_ | refine VrN.keep ?_ | refine DrawN.calm (by decide +kernel) ?_ | refine Nd.mk (by decide +kernel) ?_ | refine Nd.mk (by omega) ?_ | (refine Nd.mk ?_ ?_; focus ((repeat' (first | exact trivial | exact wkE_refl _ | refine And.intro ?_ ?_)); done)) | refine RdN.intro _ rfl (by rfl) ?_); (conv => whnf))))
  have hlm : l.length = m.length := by omega
  ((conv => whnf); (repeat ((first | refine VrN.norm (wrap_i64 (by omega)) ?_ | refine VrN.keep ?_ | refine DrawN.calm (by decide +kernel) ?_ | refine Nd.mk (by decide +kernel) ?_ | refine Nd.mk (by omega) ?_ | (refine Nd.mk ?_ ?_; focus ((repeat' (first | exact trivial | exact wkE_refl _ | refine And.intro ?_ ?_)); done)) | refine RdN.intro _ rfl (by rfl) ?_); (conv => whnf))))
  refine loopS Nat (fun i => i ≤ l.length ∧ sameB lines (l.drop i) (m.drop i) = sameB lines l m) (fun i => mkS Tryd.f10.ntmps 0 [(0, .c (.v (.slice a l.length ca))), (1, .c (.v (.slice b m.length cb))), (2, .c (.v (.bool lines))), (7, .c (.v (.int .i64 (i : Int))))]) (fun i => l.length - i) rfl (fun _ => rfl) 0 ⟨by omega, rfl⟩ ?_ fun i ⟨hi, he⟩ => ?_
  · (repeat' (first | exact trivial | refine And.intro (by with_reducible rfl) ?_ | (with_reducible exact wkC_refl _) | (with_reducible exact wkCs_refl _) | refine And.intro ?_ ?_))
    all_goals rfl
  ((conv => whnf); (repeat ((first | refine VrN.norm (wrap_i64 (by omega)) ?_ | refine VrN.keep ?_ | refine DrawN.calm (by decide +kernel) ?_ | refine Nd.mk (by decide +kernel) ?_ | refine Nd.mk (by omega) ?_ | (refine Nd.mk ?_ ?_; focus ((repeat' (first | exact trivial | exact wkE_refl _ | refine And.intro ?_ ?_)); done)) | refine RdN.intro _ rfl (by rfl) ?_); (conv => whnf))))
  refine brd_dec (fun h1 => ?_) (fun h1 => ?_)
  · have hp : ∃ p, l[i]? = some p := ⟨_, List.getElem?_eq_getElem (by omega)⟩
    obtain ⟨p, hp⟩ := hp
    have hq : ∃ q, m[i]? = some q := ⟨_, List.getElem?_eq_getElem (by omega)⟩
    obtain ⟨q, hq⟩ := hq
    have hd : l.drop i = p :: l.drop (i + 1) := by
      obtain ⟨h, rfl⟩ := List.getElem?_eq_some_iff.1 hp
      exact List.drop_eq_getElem_cons h
    have hd2 : m.drop i = q :: m.drop (i + 1) := by
      obtain ⟨h, rfl⟩ := List.getElem?_eq_some_iff.1 hq
      exact List.drop_eq_getElem_cons h
    rw [hd, hd2, sameB] at he
    have hsa : a.isSome = true := by
      cases a with
      | none => rw [ha rfl] at hp; cases hp
      | some _ => rfl
    have hsb : b.isSome = true := by
      cases b with
      | none => rw [hb rfl] at hq; cases hq
      | some _ => rfl
    have next : sameP lines p q = true → (↑i : Int) < l.length → sameB lines (l.drop (i + 1)) (m.drop (i + 1)) = sameB lines l m := fun h _ => by rw [← he, h]; simp
    ((conv => whnf); (repeat ((first | refine VrN.norm (wrap_i64 (by omega)) ?_ | refine VrN.keep ?_ | refine DrawN.calm (by decide +kernel) ?_ | refine Nd.mk (by decide +kernel) ?_ | refine Nd.mk (by omega) ?_ | (refine Nd.mk ?_ ?_; focus ((repeat' (first | exact trivial | exact wkE_refl _ | refine And.intro ?_ ?_)); done)) | refine RdN.intro _ rfl (by rfl) ?_); (conv => whnf))))
    refine Nd.mk ⟨hsa, by omega, by omega⟩ ?_
    ((conv => whnf); (repeat ((first | refine VrN.norm (wrap_i64 (by omega)) ?_ | refine VrN.keep ?_ | refine DrawN.calm (by decide +kernel) ?_ | refine Nd.mk (by decide +kernel) ?_ | refine Nd.mk (by omega) ?_ | (refine Nd.mk ?_ ?_; focus ((repeat' (first | exact trivial | exact wkE_refl _ | refine And.intro ?_ ?_)); done)) | refine RdN.intro _ rfl (by rfl) ?_); (conv => whnf))))
    refine LdN.fld (.int .i64 p.kind) rfl (fun w hw => hw.1.1) (by rw [Int.toNat_natCast]; exact partsC_get l i 0 (by decide) hp) ?_
    ((conv => whnf); (repeat ((first | refine VrN.norm (wrap_i64 (by omega)) ?_ | refine VrN.keep ?_ | refine DrawN.calm (by decide +kernel) ?_ | refine Nd.mk (by decide +kernel) ?_ | refine Nd.mk (by omega) ?_ | (refine Nd.mk ?_ ?_; focus ((repeat' (first | exact trivial | exact wkE_refl _ | refine And.intro ?_ ?_)); done)) | refine RdN.intro _ rfl (by rfl) ?_); (conv => whnf))))
    refine Nd.mk ⟨hsb, by omega, by omega⟩ ?_
    ((conv => whnf); (repeat ((first | refine VrN.norm (wrap_i64 (by omega)) ?_ | refine VrN.keep ?_ | refine DrawN.calm (by decide +kernel) ?_ | refine Nd.mk (by decide +kernel) ?_ | refine Nd.mk (by omega) ?_ | (refine Nd.mk ?_ ?_; focus ((repeat' (first | exact trivial | exact wkE_refl _ | refine And.intro ?_ ?_)); done)) | refine RdN.intro _ rfl (by rfl) ?_); (conv => whnf))))
    refine LdN.fld (.int .i64 q.kind) rfl (fun w hw => hw.1.2) (by rw [Int.toNat_natCast]; exact partsC_get m i 0 (by decide) hq) ?_
    ((conv => whnf); (repeat ((first | refine VrN.norm (wrap_i64 (by omega)) ?_ | refine VrN.keep ?_ | refine DrawN.calm (by decide +kernel) ?_ | refine Nd.mk (by decide +kernel) ?_ | refine Nd.mk (by omega) ?_ | (refine Nd.mk ?_ ?_; focus ((repeat' (first | exact trivial | exact wkE_refl _ | refine And.intro ?_ ?_)); done)) | refine RdN.intro _ rfl (by rfl) ?_); (conv => whnf))))
    refine brd_ne (fun h2 => ?_) (fun h2 => ?_)
    · have hs : sameP lines p q = false := by simp [sameP, h2]
      rw [hs] at he
      ((conv => whnf); (repeat ((first | refine VrN.norm (wrap_i64 (by omega)) ?_ | refine VrN.keep ?_ | refine DrawN.calm (by decide +kernel) ?_ | refine Nd.mk (by decide +kernel) ?_ | refine Nd.mk (by omega) ?_ | (refine Nd.mk ?_ ?_; focus ((repeat' (first | exact trivial | exact wkE_refl _ | refine And.intro ?_ ?_)); done)) | refine RdN.intro _ rfl (by rfl) ?_); (conv => whnf))))
      rw [← he]
      rfl
    ((conv => whnf); (repeat ((first | refine VrN.norm (wrap_i64 (by omega)) ?_ | refine VrN.keep ?_ | refine DrawN.calm (by decide +kernel) ?_ | refine Nd.mk (by decide +kernel) ?_ | refine Nd.mk (by omega) ?_ | (refine Nd.mk ?_ ?_; focus ((repeat' (first | exact trivial | exact wkE_refl _ | refine And.intro ?_ ?_)); done)) | refine RdN.intro _ rfl (by rfl) ?_); (conv => whnf))))
    refine Nd.mk ⟨hsa, by omega, by omega⟩ ?_
    ((conv => whnf); (repeat ((first | refine VrN.norm (wrap_i64 (by omega)) ?_ | refine VrN.keep ?_ | refine DrawN.calm (by decide +kernel) ?_ | refine Nd.mk (by decide +kernel) ?_ | refine Nd.mk (by omega) ?_ | (refine Nd.mk ?_ ?_; focus ((repeat' (first | exact trivial | exact wkE_refl _ | refine And.intro ?_ ?_)); done)) | refine RdN.intro _ rfl (by rfl) ?_); (conv => whnf))))
    refine LdN.fld (.string (bs p.text)) rfl (fun w hw => hw.1.1) (by rw [Int.toNat_natCast]; exact partsC_get l i 2 (by decide) hp) ?_
    ((conv => whnf); (repeat ((first | refine VrN.norm (wrap_i64 (by omega)) ?_ | refine VrN.keep ?_ | refine DrawN.calm (by decide +kernel) ?_ | refine Nd.mk (by decide +kernel) ?_ | refine Nd.mk (by omega) ?_ | (refine Nd.mk ?_ ?_; focus ((repeat' (first | exact trivial | exact wkE_refl _ | refine And.intro ?_ ?_)); done)) | refine RdN.intro _ rfl (by rfl) ?_); (conv => whnf))))
    refine Nd.mk ⟨hsb, by omega, by omega⟩ ?_
    ((conv => whnf); (repeat ((first | refine VrN.norm (wrap_i64 (by omega)) ?_ | refine VrN.keep ?_ | refine DrawN.calm (by decide +kernel) ?_ | refine Nd.mk (by decide +kernel) ?_ | refine Nd.mk (by omega) ?_ | (refine Nd.mk ?_ ?_; focus ((repeat' (first | exact trivial | exact wkE_refl _ | refine And.intro ?_ ?_)); done)) | refine RdN.intro _ rfl (by rfl) ?_); (conv => whnf))))
    refine LdN.fld (.string (bs q.text)) rfl (fun w hw => hw.1.2) (by rw [Int.toNat_natCast]; exact partsC_get m i 2 (by decide) hq) ?_
    ((conv => whnf); (repeat ((first | refine VrN.norm (wrap_i64 (by omega)) ?_ | refine VrN.keep ?_ | refine DrawN.calm (by decide +kernel) ?_ | refine Nd.mk (by decide +kernel) ?_ | refine Nd.mk (by omega) ?_ | (refine Nd.mk ?_ ?_; focus ((repeat' (first | exact trivial | exact wkE_refl _ | refine And.intro ?_ ?_)); done)) | refine RdN.intro _ rfl (by rfl) ?_); (conv => whnf))))
    rw [bs_list, bs_list]
    refine brd_not (brd_intro (fun h3 => ?_) (fun h3 => ?_))
    · have h3 : p.text = q.text := beq_iff_eq.1 h3
      ((conv => whnf); (repeat ((first | refine VrN.norm (wrap_i64 (by omega)) ?_ | refine VrN.keep ?_ | refine DrawN.calm (by decide +kernel) ?_ | refine Nd.mk (by decide +kernel) ?_ | refine Nd.mk (by omega) ?_ | (refine Nd.mk ?_ ?_; focus ((repeat' (first | exact trivial | exact wkE_refl _ | refine And.intro ?_ ?_)); done)) | refine RdN.intro _ rfl (by rfl) ?_); (conv => whnf))))
      refine brd_intro (fun h4 => ?_) (fun h4 => ?_)
      · ((conv => whnf); (repeat ((first | refine VrN.norm (wrap_i64 (by omega)) ?_ | refine VrN.keep ?_ | refine DrawN.calm (by decide +kernel) ?_ | refine Nd.mk (by decide +kernel) ?_ | refine Nd.mk (by omega) ?_ | (refine Nd.mk ?_ ?_; focus ((repeat' (first | exact trivial | exact wkE_refl _ | refine And.intro ?_ ?_)); done)) | refine RdN.intro _ rfl (by rfl) ?_); (conv => whnf))))
        refine Nd.mk ⟨hsa, by omega, by omega⟩ ?_
        ((conv => whnf); (repeat ((first | refine VrN.norm (wrap_i64 (by omega)) ?_ | refine VrN.keep ?_ | refine DrawN.calm (by decide +kernel) ?_ | refine Nd.mk (by decide +kernel) ?_ | refine Nd.mk (by omega) ?_ | (refine Nd.mk ?_ ?_; focus ((repeat' (first | exact trivial | exact wkE_refl _ | refine And.intro ?_ ?_)); done)) | refine RdN.intro _ rfl (by rfl) ?_); (conv => whnf))))
        refine LdN.fld (.int .i64 p.line) rfl (fun w hw => hw.1.1) (by rw [Int.toNat_natCast]; exact partsC_get l i 1 (by decide) hp) ?_
        ((conv => whnf); (repeat ((first | refine VrN.norm (wrap_i64 (by omega)) ?_ | refine VrN.keep ?_ | refine DrawN.calm (by decide +kernel) ?_ | refine Nd.mk (by decide +kernel) ?_ | refine Nd.mk (by omega) ?_ | (refine Nd.mk ?_ ?_; focus ((repeat' (first | exact trivial | exact wkE_refl _ | refine And.intro ?_ ?_)); done)) | refine RdN.intro _ rfl (by rfl) ?_); (conv => whnf))))
        refine Nd.mk ⟨hsb, by omega, by omega⟩ ?_
        ((conv => whnf); (repeat ((first | refine VrN.norm (wrap_i64 (by omega)) ?_ | refine VrN.keep ?_ | refine DrawN.calm (by decide +kernel) ?_ | refine Nd.mk (by decide +kernel) ?_ | refine Nd.mk (by omega) ?_ | (refine Nd.mk ?_ ?_; focus ((repeat' (first | exact trivial | exact wkE_refl _ | refine And.intro ?_ ?_)); done)) | refine RdN.intro _ rfl (by rfl) ?_); (conv => whnf))))
        refine LdN.fld (.int .i64 q.line) rfl (fun w hw => hw.1.2) (by rw [Int.toNat_natCast]; exact partsC_get m i 1 (by decide) hq) ?_
        ((conv => whnf); (repeat ((first | refine VrN.norm (wrap_i64 (by omega)) ?_ | refine VrN.keep ?_ | refine DrawN.calm (by decide +kernel) ?_ | refine Nd.mk (by decide +kernel) ?_ | refine Nd.mk (by omega) ?_ | (refine Nd.mk ?_ ?_; focus ((repeat' (first | exact trivial | exact wkE_refl _ | refine And.intro ?_ ?_)); done)) | refine RdN.intro _ rfl (by rfl) ?_); (conv => whnf))))
        refine brd_ne (fun h5 => ?_) (fun h5 => ?_)
        · have hs : sameP lines p q = false := by simp [sameP, h5, h4]
          rw [hs] at he
          ((conv => whnf); (repeat ((first | refine VrN.norm (wrap_i64 (by omega)) ?_ | refine VrN.keep ?_ | refine DrawN.calm (by decide +kernel) ?_ | refine Nd.mk (by decide +kernel) ?_ | refine Nd.mk (by omega) ?_ | (refine Nd.mk ?_ ?_; focus ((repeat' (first | exact trivial | exact wkE_refl _ | refine And.intro ?_ ?_)); done)) | refine RdN.intro _ rfl (by rfl) ?_); (conv => whnf))))
          rw [← he]
          rfl
        · ((conv => whnf); (repeat ((first | refine VrN.norm (wrap_i64 (by omega)) ?_ | refine VrN.keep ?_ | refine DrawN.calm (by decide +kernel) ?_ | refine Nd.mk (by decide +kernel) ?_ | refine Nd.mk (by omega) ?_ | (refine Nd.mk ?_ ?_; focus ((repeat' (first | exact trivial | exact wkE_refl _ | refine And.intro ?_ ?_)); done)) | refine RdN.intro _ rfl (by rfl) ?_); (conv => whnf))))
          refine ⟨i + 1, ⟨by omega, next (by simp [sameP, h2, h3, h5]) h1⟩, by omega, ?_, by (repeat' (first | exact trivial | exact wkE_refl _ | refine And.intro ?_ ?_))⟩
          (repeat' (first | exact trivial | refine And.intro (by with_reducible rfl) ?_ | (with_reducible exact wkC_refl _) | (with_reducible exact wkCs_refl _) | refine And.intro ?_ ?_))
          exact av_int (by omega)
      · ((conv => whnf); (repeat ((first | refine VrN.norm (wrap_i64 (by omega)) ?_ | refine VrN.keep ?_ | refine DrawN.calm (by decide +kernel) ?_ | refine Nd.mk (by decide +kernel) ?_ | refine Nd.mk (by omega) ?_ | (refine Nd.mk ?_ ?_; focus ((repeat' (first | exact trivial | exact wkE_refl _ | refine And.intro ?_ ?_)); done)) | refine RdN.intro _ rfl (by rfl) ?_); (conv => whnf))))
        refine ⟨i + 1, ⟨by omega, next (by simp [sameP, h2, h3, h4]) h1⟩, by omega, ?_, by (repeat' (first | exact trivial | exact wkE_refl _ | refine And.intro ?_ ?_))⟩
        (repeat' (first | exact trivial | refine And.intro (by with_reducible rfl) ?_ | (with_reducible exact wkC_refl _) | (with_reducible exact wkCs_refl _) | refine And.intro ?_ ?_))
        exact av_int (by omega)
    · have hs : sameP lines p q = false := by simp [sameP, h3]
      rw [hs] at he
      ((conv => whnf); (repeat ((first | refine VrN.norm (wrap_i64 (by omega)) ?_ | refine VrN.keep ?_ | refine DrawN.calm (by decide +kernel) ?_ | refine Nd.mk (by decide +kernel) ?_ | refine Nd.mk (by omega) ?_ | (refine Nd.mk ?_ ?_; focus ((repeat' (first | exact trivial | exact wkE_refl _ | refine And.intro ?_ ?_)); done)) | refine RdN.intro _ rfl (by rfl) ?_); (conv => whnf))))
      rw [← he]
      rfl
  · have e : i = l.length := by omega
    subst e
    rw [List.drop_length, hlm, List.drop_length] at he
    rw [← he]
    ((conv => whnf); (repeat ((first | refine VrN.norm (wrap_i64 (by omega)) ?_ | refine VrN.keep ?_ | refine DrawN.calm (by decide +kernel) ?_ | refine Nd.mk (by decide +kernel) ?_ | refine Nd.mk (by omega) ?_ | (refine Nd.mk ?_ ?_; focus ((repeat' (first | exact trivial | exact wkE_refl _ | refine And.intro ?_ ?_)); done)) | refine RdN.intro _ rfl (by rfl) ?_); (conv => whnf))))
    rfl
theorem sane_parts : parts [97, 60, 37, 61, 32, 120, 32, 37, 62, 98] false = ([⟨0, 1, [97]⟩, ⟨2, 1, [32, 120, 32]⟩, ⟨0, 1, [98]⟩], 0, 0) := by decide
theorem sane_c : ∀ H, (∀ w, Facts H w → MaxF w) → SpecH Tryd.prog 6 (pvs []) H (Ret (.bool true) H) := by
  refine factC hm Tryd.func6 (by kernel_rfl) rfl rfl ?_
  have hP := Parts_c [97, 60, 37, 61, 32, 120, 32, 37, 62, 98] false (by decide)
  rw [sane_parts] at hP
  ((conv => whnf); (repeat ((first | refine VrN.norm (wrap_i64 (by omega)) ?_ | refine VrN.keep ?_ | refine DrawN.calm (by decide +kernel) ?_ | refine Nd.mk (by decide +kernel) ?_ | refine Nd.mk (by omega) ?_ | (refine Nd.mk ?_ ?_; focus ((repeat' (first | exact trivial | exact wkE_refl _ | refine And.intro ?_ ?_)); done)) | refine RdN.intro _ rfl (by rfl) ?_); (conv => whnf))))
  refine SpecF.call hP (fun w hw => hw.1) fun v G hR => ?_
  obtain ⟨ob, cap, rfl, hn, hG⟩ := hR
  have hs : (at0 ob).isSome = true := by
    cases ob with
    | none => cases hn rfl
    | some _ => rfl
  ((conv => whnf); (repeat ((first | refine VrN.norm (wrap_i64 (by omega)) ?_ | refine VrN.keep ?_ | refine DrawN.calm (by decide +kernel) ?_ | refine Nd.mk (by decide +kernel) ?_ | refine Nd.mk (by omega) ?_ | (refine Nd.mk ?_ ?_; focus ((repeat' (first | exact trivial | exact wkE_refl _ | refine And.intro ?_ ?_)); done)) | refine RdN.intro _ rfl (by rfl) ?_); (conv => whnf))))
  refine Nd.mk ⟨hs, by decide, by decide⟩ ?_
  ((conv => whnf); (repeat ((first | refine VrN.norm (wrap_i64 (by omega)) ?_ | refine VrN.keep ?_ | refine DrawN.calm (by decide +kernel) ?_ | refine Nd.mk (by decide +kernel) ?_ | refine Nd.mk (by omega) ?_ | (refine Nd.mk ?_ ?_; focus ((repeat' (first | exact trivial | exact wkE_refl _ | refine And.intro ?_ ?_)); done)) | refine RdN.intro _ rfl (by rfl) ?_); (conv => whnf))))
  refine LdN.fld (.string (bs [97])) rfl (fun w hw => hG w hw.2.1) rfl ?_
  ((conv => whnf); (repeat ((first | refine VrN.norm (wrap_i64 (by omega)) ?_ | refine VrN.keep ?_ | refine DrawN.calm (by decide +kernel) ?_ | refine Nd.mk (by decide +kernel) ?_ | refine Nd.mk (by omega) ?_ | (refine Nd.mk ?_ ?_; focus ((repeat' (first | exact trivial | exact wkE_refl _ | refine And.intro ?_ ?_)); done)) | refine RdN.intro _ rfl (by rfl) ?_); (conv => whnf))))
  refine Nd.mk ⟨hs, by decide, by decide⟩ ?_
  ((conv => whnf); (repeat ((first | refine VrN.norm (wrap_i64 (by omega)) ?_ | refine VrN.keep ?_ | refine DrawN.calm (by decide +kernel) ?_ | refine Nd.mk (by decide +kernel) ?_ | refine Nd.mk (by omega) ?_ | (refine Nd.mk ?_ ?_; focus ((repeat' (first | exact trivial | exact wkE_refl _ | refine And.intro ?_ ?_)); done)) | refine RdN.intro _ rfl (by rfl) ?_); (conv => whnf))))
  refine LdN.fld (.int .i64 2) rfl (fun w hw => hG w hw.2.1) rfl ?_
  ((conv => whnf); (repeat ((first | refine VrN.norm (wrap_i64 (by omega)) ?_ | refine VrN.keep ?_ | refine DrawN.calm (by decide +kernel) ?_ | refine Nd.mk (by decide +kernel) ?_ | refine Nd.mk (by omega) ?_ | (refine Nd.mk ?_ ?_; focus ((repeat' (first | exact trivial | exact wkE_refl _ | refine And.intro ?_ ?_)); done)) | refine RdN.intro _ rfl (by rfl) ?_); (conv => whnf))))
  refine Nd.mk ⟨hs, by decide, by decide⟩ ?_
  ((conv => whnf); (repeat ((first | refine VrN.norm (wrap_i64 (by omega)) ?_ | refine VrN.keep ?_ | refine DrawN.calm (by decide +kernel) ?_ | refine Nd.mk (by decide +kernel) ?_ | refine Nd.mk (by omega) ?_ | (refine Nd.mk ?_ ?_; focus ((repeat' (first | exact trivial | exact wkE_refl _ | refine And.intro ?_ ?_)); done)) | refine RdN.intro _ rfl (by rfl) ?_); (conv => whnf))))
  refine LdN.fld (.string (bs [32, 120, 32])) rfl (fun w hw => hG w hw.2.1) rfl ?_
  ((conv => whnf); (repeat ((first | refine VrN.norm (wrap_i64 (by omega)) ?_ | refine VrN.keep ?_ | refine DrawN.calm (by decide +kernel) ?_ | refine Nd.mk (by decide +kernel) ?_ | refine Nd.mk (by omega) ?_ | (refine Nd.mk ?_ ?_; focus ((repeat' (first | exact trivial | exact wkE_refl _ | refine And.intro ?_ ?_)); done)) | refine RdN.intro _ rfl (by rfl) ?_); (conv => whnf))))
  refine Nd.mk ⟨hs, by decide, by decide⟩ ?_
  ((conv => whnf); (repeat ((first | refine VrN.norm (wrap_i64 (by omega)) ?_ | refine VrN.keep ?_ | refine DrawN.calm (by decide +kernel) ?_ | refine Nd.mk (by decide +kernel) ?_ | refine Nd.mk (by omega) ?_ | (refine Nd.mk ?_ ?_; focus ((repeat' (first | exact trivial | exact wkE_refl _ | refine And.intro ?_ ?_)); done)) | refine RdN.intro _ rfl (by rfl) ?_); (conv => whnf))))
  refine LdN.fld (.string (bs [98])) rfl (fun w hw => hG w hw.2.1) rfl ?_
  ((conv => whnf); (repeat ((first | refine VrN.norm (wrap_i64 (by omega)) ?_ | refine VrN.keep ?_ | refine DrawN.calm (by decide +kernel) ?_ | refine Nd.mk (by decide +kernel) ?_ | refine Nd.mk (by omega) ?_ | (refine Nd.mk ?_ ?_; focus ((repeat' (first | exact trivial | exact wkE_refl _ | refine And.intro ?_ ?_)); done)) | refine RdN.intro _ rfl (by rfl) ?_); (conv => whnf))))
  rfl

/-! ### Escape -/
theorem occ_cons (a b c : UInt8) (r : List UInt8) (j : Nat) : Lib.occAt (c :: r) [a, b] (j + 1) = Lib.occAt r [a, b] j := by simp [Lib.occAt]
/-- What two bytes are replaced by, wherever they stand. -/
def g2 (a b : UInt8) (new : List UInt8) : List UInt8 → List UInt8
  | [] => []
  | c :: r => if [a, b].isPrefixOf (c :: r) then new ++ g2 a b new (r.drop 1) else c :: g2 a b new r
termination_by s => s.length
theorem g2_skip (a b : UInt8) (new : List UInt8) : ∀ (i : Nat) (s : List UInt8), Lib.NoOcc s [a, b] i → i ≤ s.length → g2 a b new s = s.take i ++ g2 a b new (s.drop i)
  | 0, s, _, _ => by simp
  | i + 1, [], _, h => by simp at h
  | i + 1, c :: r, h, hi => by
    have h0 : [a, b].isPrefixOf (c :: r) = false := by simpa [Lib.occAt] using h 0 (by omega)
    rw [g2, if_neg (by simp [h0]), g2_skip a b new i r (fun j hj => by rw [← occ_cons a b c]; exact h (j + 1) (by omega)) (by simpa using hi)]
    simp
theorem g2_rpl (a b : UInt8) (new : List UInt8) : ∀ (n : Nat) (s : List UInt8), s.length ≤ n → rpl [a, b] new s = g2 a b new s := by
  intro n
  induction n with
  | zero =>
    intro s h
    have : s = [] := List.eq_nil_of_length_eq_zero (by omega)
    subst this
    simp [g2, rpl, Lib.count, Lib.countFrom, Lib.index, Lib.replaceK]
  | succ n ih =>
    intro s h
    rcases Lib.index_spec s [a, b] with ⟨h1, h2⟩ | ⟨i, h1, h2, h3, h4⟩
    · unfold rpl
      rw [Lib.count_miss h1, Lib.replaceK, g2_skip a b new s.length s (fun j hj => h2 j (by omega)) (Nat.le_refl _)]
      simp [g2]
    · have hr := Lib.index_room s [a, b] (by omega)
      rw [h1] at hr
      simp only [List.length_cons, List.length_nil] at hr
      unfold rpl
      rw [Lib.count_hit (by simp) h1, Nat.add_comm, Lib.replaceK_hit _ _ _ _ i h1, g2_skip a b new i s h4 h2]
      have hi := ih (s.drop (i + 2)) (by simp; omega)
      unfold rpl at hi
      simp only [List.length_cons, List.length_nil]
      rw [hi]
      have hd : ∃ q, s.drop i = a :: b :: q := by
        have h3 : [a, b].isPrefixOf (s.drop i) = true := h3
        obtain ⟨q, hq⟩ := pfx_split h3
        exact ⟨q, hq⟩
      obtain ⟨q, hq⟩ := hd
      have hq2 : s.drop (i + 2) = q := by rw [← List.drop_drop, hq]; rfl
      rw [hq, hq2, g2, if_pos (by simp [List.isPrefixOf])]
      simp
theorem esc_g2 : ∀ (n : Nat) (s : List UInt8), s.length ≤ n → esc s = g2 60 37 [60, 37, 37] s := by
  intro n
  induction n with
  | zero => intro s h; have : s = [] := List.eq_nil_of_length_eq_zero (by omega); subst this; simp [esc, g2]
  | succ n ih =>
    intro s h
    cases s with
    | nil => simp [esc, g2]
    | cons c r =>
      rw [esc, g2]
      split
      · rw [ih _ (by simp at h ⊢; omega)]; rfl
      · rw [ih _ (by simpa using h)]
theorem repl_g2 : ∀ (n : Nat) (s : List UInt8), s.length ≤ n → repl s = g2 37 62 [37, 37, 62] s := by
  intro n
  induction n with
  | zero => intro s h; have : s = [] := List.eq_nil_of_length_eq_zero (by omega); subst this; simp [repl, g2]
  | succ n ih =>
    intro s h
    cases s with
    | nil => simp [repl, g2]
    | cons c r =>
      rw [repl, g2]
      split
      · rw [ih _ (by simp at h ⊢; omega)]; rfl
      · rw [ih _ (by simpa using h)]
theorem ReplaceAll_c (old new s : List UInt8) (h1 : 1 ≤ old.length) (hl : old.length ≤ 100) (hn : new.length ≤ 100) (hne : old ≠ new) (hc : ∀ H, (∀ w, Facts H w → MaxF w) → SpecH Tryd.prog 39 (pvs [.string (bs s), .string (bs old)]) H (Ret (.int .i64 (Lib.count s old : Nat)) H)) (hs : s.length ≤ 1000000) : ∀ H, (∀ w, Facts H w → MaxF w) →
    SpecH Tryd.prog 13 (pvs [.string (bs s), .string (bs old), .string (bs new)]) H (Ret (.string (bs (rpl old new s))) H) := by
  refine factC hm Tryd.func13 (by kernel_rfl) rfl rfl ?_
  ((conv => whnf); (repeat ((first | refine VrN.norm (wrap_i64 (by omega)) ?_ | refine VrN.keep ?_ | refine DrawN.calm (by decide +kernel) ?_ | refine Nd.mk (by decide +kernel) ?_ | refine Nd.mk (by omega) ?_ | (refine Nd.mk ?_ ?_; focus ((repeat' (first | exact trivial | exact wkE_refl _ | refine And.intro ?_ ?_)); done)) | refine RdN.intro _ rfl (by rfl) ?_); (conv => whnf)))); refine call1 (Replace_c old new s h1 hl hn hne hc hs _ fun w hw => hw.1) ?_
  ((conv => whnf); (repeat ((first | refine VrN.norm (wrap_i64 (by omega)) ?_ | refine VrN.keep ?_ | refine DrawN.calm (by decide +kernel) ?_ | refine Nd.mk (by decide +kernel) ?_ | refine Nd.mk (by omega) ?_ | (refine Nd.mk ?_ ?_; focus ((repeat' (first | exact trivial | exact wkE_refl _ | refine And.intro ?_ ?_)); done)) | refine RdN.intro _ rfl (by rfl) ?_); (conv => whnf))))
theorem Escape_c (s : List UInt8) (hs : s.length ≤ 1000000) : ∀ H, (∀ w, Facts H w → MaxF w) → SpecH Tryd.prog 7 (pvs [.string (bs s)]) H (Ret (.string (bs (esc s))) H) := by
  refine factC hm Tryd.func7 (by kernel_rfl) rfl rfl ?_
  have h := ReplaceAll_c [60, 37] [60, 37, 37] s (by decide) (by decide) (by decide) (by decide) (fun H hF => Count2_c s [60, 37] (by decide) (by omega) H hF) hs
  rw [g2_rpl 60 37 _ _ s (Nat.le_refl _), ← esc_g2 _ s (Nat.le_refl _)] at h
  ((conv => whnf); (repeat ((first | refine VrN.norm (wrap_i64 (by omega)) ?_ | refine VrN.keep ?_ | refine DrawN.calm (by decide +kernel) ?_ | refine Nd.mk (by decide +kernel) ?_ | refine Nd.mk (by omega) ?_ | (refine Nd.mk ?_ ?_; focus ((repeat' (first | exact trivial | exact wkE_refl _ | refine And.intro ?_ ?_)); done)) | refine RdN.intro _ rfl (by rfl) ?_); (conv => whnf)))); refine call1 (h _ fun w hw => hw.1) ?_
  ((conv => whnf); (repeat ((first | refine VrN.norm (wrap_i64 (by omega)) ?_ | refine VrN.keep ?_ | refine DrawN.calm (by decide +kernel) ?_ | refine Nd.mk (by decide +kernel) ?_ | refine Nd.mk (by omega) ?_ | (refine Nd.mk ?_ ?_; focus ((repeat' (first | exact trivial | exact wkE_refl _ | refine And.intro ?_ ?_)); done)) | refine RdN.intro _ rfl (by rfl) ?_); (conv => whnf))))
/-! ### The law -/
theorem parts_esc (s : List UInt8) (hs : s.length ≤ 3000) : parts (esc s) false = (if s.isEmpty then [] else [⟨0, 1, s⟩], 0, 0) := by
  have hl := esc_len _ s (Nat.le_refl _)
  rw [parts_ok _ _ (by omega), rd_esc _ s _ _ _ _ (Nat.le_refl _)]
  cases s with
  | nil => rfl
  | cons c r => rfl
end Go.Proofs.YtfcjgklghgpddaaDoor
