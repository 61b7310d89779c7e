/-
  Contracts: the program's reader: the beginning of a line, a margin, a line of code.
-/
import Derived.Test.YtfcjgklghgpddaaDoorG4
namespace Go.Proofs.YtfcjgklghgpddaaDoor
open Go.AX Go.RowKit Go.Erb
set_option maxRecDepth 20000

theorem bol_take {s : List UInt8} {n : Nat} (h0 : n ≠ 0) (hn : n ≤ s.length) {c : UInt8} (hc : s[n - 1]? = some c) : bol (s.take n) = (c == 10) := by
  unfold bol
  have : (s.take n).getLast? = some c := by
    rw [List.getLast?_eq_getElem?, List.length_take, Nat.min_eq_left hn, List.getElem?_take, if_pos (by omega), hc]
  rw [this]
theorem u8_10 (c : UInt8) : ((c.toNat : Int) == 10) = (c == 10) := u8_eq (c := c) (n := 10) (by decide)
theorem starts_c (r : RS) (m : MS) (ok : m.ok r) (ha : r.at_ ≤ r.s.length) (hs : r.s.length ≤ 1000000) : SpecH Tryd.prog 22 [.c (.lp 0 0)] (RH r m) (RetM r (.bool (bol (r.s.take r.at_)))) := by
  refine ownC hm Tryd.func22 (by kernel_rfl) rfl rfl (fun _ _ => RH_ok _ _) (fun _ _ => Nat.le_refl _) ?_
  obtain ⟨s, at_, line, lines, out, plain, begun⟩ := r
  obtain ⟨⟨ob, oc⟩, ⟨pb, pc⟩⟩ := m
  have ha : at_ ≤ s.length := ha
  have hs : s.length ≤ 1000000 := hs
  ((conv => whnf); (repeat ((first | refine VrN.norm (wrap_i64 (by omega)) ?_ | refine VrN.keep ?_ | refine DrawN.calm (by decide +kernel) ?_ | refine Nd.mk (by decide +kernel) ?_ | refine Nd.mk (by omega) ?_ | (refine Nd.mk ?_ ?_; focus ((repeat' (first | exact trivial | exact wkE_refl _ | refine And.intro ?_ ?_)); done)) | refine RdN.intro _ rfl (by rfl) ?_); (conv => whnf))))
  refine brd_eq (fun h0 => ?_) (fun h0 => ?_)
  · have h0 : at_ = 0 := by have h0 : (at_ : Int) = 0 := h0; omega
    subst h0
    ((conv => whnf); (repeat ((first | refine VrN.norm (wrap_i64 (by omega)) ?_ | refine VrN.keep ?_ | refine DrawN.calm (by decide +kernel) ?_ | refine Nd.mk (by decide +kernel) ?_ | refine Nd.mk (by omega) ?_ | (refine Nd.mk ?_ ?_; focus ((repeat' (first | exact trivial | exact wkE_refl _ | refine And.intro ?_ ?_)); done)) | refine RdN.intro _ rfl (by rfl) ?_); (conv => whnf))))
    exact ⟨⟨⟨ob, oc⟩, ⟨pb, pc⟩⟩, ok, rfl, wkH_refl _⟩
  · have h0 : at_ ≠ 0 := fun h => h0 (by show (at_ : Int) = 0; omega)
    have hc : ∃ x, s[at_ - 1]? = some x := ⟨_, List.getElem?_eq_getElem (by omega)⟩
    obtain ⟨x, hc⟩ := hc
    have hbx := byteAt_get hc
    have hw : IntKind.wrap .i64 ((at_ : Int) - 1) = ((at_ - 1 : Nat) : Int) := by rw [wrap_i64 (by omega)]; omega
    ((conv => whnf); (repeat ((first | refine VrN.norm (wrap_i64 (by omega)) ?_ | refine VrN.keep ?_ | refine DrawN.calm (by decide +kernel) ?_ | refine Nd.mk (by decide +kernel) ?_ | refine Nd.mk (by omega) ?_ | (refine Nd.mk ?_ ?_; focus ((repeat' (first | exact trivial | exact wkE_refl _ | refine And.intro ?_ ?_)); done)) | refine RdN.intro _ rfl (by rfl) ?_); (conv => whnf))))
    rw [hw]
    refine Nd.mk ⟨by omega, by rw [bs_size]; show ((at_ - 1 : Nat) : Int) < (s.length : Int); omega⟩ ?_
    rw [Int.toNat_natCast, hbx]
    ((conv => whnf); (repeat ((first | refine VrN.norm (wrap_i64 (by omega)) ?_ | refine VrN.keep ?_ | refine DrawN.calm (by decide +kernel) ?_ | refine Nd.mk (by decide +kernel) ?_ | refine Nd.mk (by omega) ?_ | (refine Nd.mk ?_ ?_; focus ((repeat' (first | exact trivial | exact wkE_refl _ | refine And.intro ?_ ?_)); done)) | refine RdN.intro _ rfl (by rfl) ?_); (conv => whnf))))
    refine ⟨⟨⟨ob, oc⟩, ⟨pb, pc⟩⟩, ok, ?_, wkH_refl _⟩
    rw [show bol (List.take at_ s) = (x == 10) from bol_take h0 ha hc]
    exact out_bool (u8_10 x)

def allB (l : List UInt8) : Bool := ((trimE blankB l).dropWhile blankB).isEmpty
/-- What stands on the line so far taken away, if it is blanks alone. -/
theorem margin_c (s : List UInt8) (at_ : Nat) (line : Int) (lines : Bool) (out : List Part) (plain : List UInt8) (begun : Int) (m : MS) (f : Nat) (hf : lastAt (s.take at_) 10 at_ + 1 = f) (ok : m.ok ⟨s, at_, line, lines, out, plain, begun⟩) (ha : at_ ≤ s.length) (hs : s.length ≤ 1000000)
    (hb : allB ((s.take at_).drop f) = true → at_ - f ≤ plain.length) (hp : plain.length ≤ 1000000) : SpecH Tryd.prog 45 [.c (.lp 0 0)] (RH ⟨s, at_, line, lines, out, plain, begun⟩ m)
    (RetM ⟨s, at_, line, lines, out, if allB ((s.take at_).drop f) then plain.take (plain.length - (at_ - f)) else plain, begun⟩ unit) := by
  refine ownC hm Tryd.func45 (by kernel_rfl) rfl rfl (fun _ _ => RH_ok _ _) (fun _ _ => Nat.le_refl _) ?_
  obtain ⟨⟨ob, oc⟩, ⟨pb, pc⟩⟩ := m
  obtain ⟨h1, h2⟩ := ok
  have hg := lastAt_ge (s.take at_) 10 at_
  have hw0 : IntKind.wrap .i64 (lastAt (s.take at_) 10 at_ + 1) = (f : Int) := by rw [wrap_i64 (by omega), hf]
  have hL := LastIndexByte_c (s.take at_) 10 (by simp; omega)
  rw [show (s.take at_).length = at_ by simp; omega] at hL
  ((conv => whnf); (repeat ((first | refine VrN.norm (wrap_i64 (by omega)) ?_ | refine VrN.keep ?_ | refine DrawN.calm (by decide +kernel) ?_ | refine Nd.mk (by decide +kernel) ?_ | refine Nd.mk (by omega) ?_ | (refine Nd.mk ?_ ?_; focus ((repeat' (first | exact trivial | exact wkE_refl _ | refine And.intro ?_ ?_)); done)) | refine RdN.intro _ rfl (by rfl) ?_); (conv => whnf))))
  refine ReadW.sl_h at_ rfl (by kernel_rfl) rfl rfl ⟨rfl, ha⟩ ?_
  ((conv => whnf); (repeat ((first | refine VrN.norm (wrap_i64 (by omega)) ?_ | refine VrN.keep ?_ | refine DrawN.calm (by decide +kernel) ?_ | refine Nd.mk (by decide +kernel) ?_ | refine Nd.mk (by omega) ?_ | (refine Nd.mk ?_ ?_; focus ((repeat' (first | exact trivial | exact wkE_refl _ | refine And.intro ?_ ?_)); done)) | refine RdN.intro _ rfl (by rfl) ?_); (conv => whnf)))); refine callQ (hL _) ?_
  ((conv => whnf); (repeat ((refine VrN.keep ?_); (conv => whnf))))
  rw [hw0]
  ((conv => whnf); (repeat ((first | refine VrN.norm (wrap_i64 (by omega)) ?_ | refine VrN.keep ?_ | refine DrawN.calm (by decide +kernel) ?_ | refine Nd.mk (by decide +kernel) ?_ | refine Nd.mk (by omega) ?_ | (refine Nd.mk ?_ ?_; focus ((repeat' (first | exact trivial | exact wkE_refl _ | refine And.intro ?_ ?_)); done)) | refine RdN.intro _ rfl (by rfl) ?_); (conv => whnf))))
  refine ReadW.sl_lh f at_ rfl (by kernel_rfl) rfl rfl rfl ⟨rfl, rfl, by omega, ha⟩ ?_
  ((conv => whnf); (repeat ((first | refine VrN.norm (wrap_i64 (by omega)) ?_ | refine VrN.keep ?_ | refine DrawN.calm (by decide +kernel) ?_ | refine Nd.mk (by decide +kernel) ?_ | refine Nd.mk (by omega) ?_ | (refine Nd.mk ?_ ?_; focus ((repeat' (first | exact trivial | exact wkE_refl _ | refine And.intro ?_ ?_)); done)) | refine RdN.intro _ rfl (by rfl) ?_); (conv => whnf)))); refine callQ (Trim_c ((s.take at_).drop f) (by simp; omega) _) ?_
  ((conv => whnf); (repeat ((first | refine VrN.norm (wrap_i64 (by omega)) ?_ | refine VrN.keep ?_ | refine DrawN.calm (by decide +kernel) ?_ | refine Nd.mk (by decide +kernel) ?_ | refine Nd.mk (by omega) ?_ | (refine Nd.mk ?_ ?_; focus ((repeat' (first | exact trivial | exact wkE_refl _ | refine And.intro ?_ ?_)); done)) | refine RdN.intro _ rfl (by rfl) ?_); (conv => whnf))))
  rw [bs_list]
  refine brd_intro (fun h => ?_) (fun h => ?_)
  · have hA : allB ((s.take at_).drop f) = true := by unfold allB; simpa using h
    have hle := hb hA
    have hw : IntKind.wrap .i64 ((plain.length : Int) - IntKind.wrap .i64 ((at_ : Int) - (f : Int))) = ((plain.length - (at_ - f) : Nat) : Int) := by
      rw [wrap_i64 (x := (at_ : Int) - (f : Int)) (by omega), wrap_i64 (by omega)]
      omega
    obtain ⟨h3, h4, h5⟩ := h2
    have hpc : plain.length ≤ pc := h4
    ((conv => whnf); (repeat ((first | refine VrN.norm (wrap_i64 (by omega)) ?_ | refine VrN.keep ?_ | refine DrawN.calm (by decide +kernel) ?_ | refine Nd.mk (by decide +kernel) ?_ | refine Nd.mk (by omega) ?_ | (refine Nd.mk ?_ ?_; focus ((repeat' (first | exact trivial | exact wkE_refl _ | refine And.intro ?_ ?_)); done)) | refine RdN.intro _ rfl (by rfl) ?_); (conv => whnf))))
    refine DrawN.plan [0, 1, 5, 10, 14] [(2, 1), (3, 1), (4, 1), (6, 1), (7, 1), (8, 1), (9, 1), (11, 1), (12, 1), (13, 1), (15, 1), (16, 1), (17, 1), (18, 1), (19, 1)] [(20, 0)] (by decide +kernel) ?_
    ((conv => whnf); (repeat ((first | refine VrN.norm (wrap_i64 (by omega)) ?_ | refine VrN.keep ?_ | refine DrawN.calm (by decide +kernel) ?_ | refine Nd.mk (by decide +kernel) ?_ | refine Nd.mk (by omega) ?_ | (refine Nd.mk ?_ ?_; focus ((repeat' (first | exact trivial | exact wkE_refl _ | refine And.intro ?_ ?_)); done)) | refine RdN.intro _ rfl (by rfl) ?_); (conv => whnf))))
    refine ReadW.slc_h (ob := pb) (cap := pc) (j := ((plain.length - (at_ - f) : Nat) : Int)) rfl (by kernel_rfl) rfl (av_int hw) ⟨by omega, by omega⟩ ?_
    rw [Int.toNat_natCast]
    ((conv => whnf); (repeat ((first | refine VrN.norm (wrap_i64 (by omega)) ?_ | refine VrN.keep ?_ | refine DrawN.calm (by decide +kernel) ?_ | refine Nd.mk (by decide +kernel) ?_ | refine Nd.mk (by omega) ?_ | (refine Nd.mk ?_ ?_; focus ((repeat' (first | exact trivial | exact wkE_refl _ | refine And.intro ?_ ?_)); done)) | refine RdN.intro _ rfl (by rfl) ?_); (conv => whnf))))
    refine ⟨⟨⟨ob, oc⟩, ⟨pb, pc⟩⟩, ⟨h1, ?_⟩, rfl, ?_⟩
    · rw [if_pos hA]
      refine ⟨fun h => ?_, ?_, h5⟩
      · have := h3 h
        exact ⟨by simp; have := this.1; simp at this; simp [this], this.2⟩
      · show (plain.take _).length ≤ pc
        simp
        omega
    · rw [if_pos hA]
      have hl : (plain.take (plain.length - (at_ - f))).length = plain.length - (at_ - f) := by simp
      exact wkH_cons (by simp) (wkH_cons rfl ⟨by
        show wkE (.app _ 1 (u8s plain) _ _ _) (.app _ 1 (u8s (plain.take _)) _ _ _)
        rw [hl]
        exact wkE_cut (by show _ ≤ plain.length; omega) (by simp [u8s, List.map_take]), wkH_nil _⟩)
  · have hA : allB ((s.take at_).drop f) = false := by unfold allB; simpa using h
    ((conv => whnf); (repeat ((first | refine VrN.norm (wrap_i64 (by omega)) ?_ | refine VrN.keep ?_ | refine DrawN.calm (by decide +kernel) ?_ | refine Nd.mk (by decide +kernel) ?_ | refine Nd.mk (by omega) ?_ | (refine Nd.mk ?_ ?_; focus ((repeat' (first | exact trivial | exact wkE_refl _ | refine And.intro ?_ ?_)); done)) | refine RdN.intro _ rfl (by rfl) ?_); (conv => whnf))))
    rw [hA]
    exact ⟨⟨⟨ob, oc⟩, ⟨pb, pc⟩⟩, ⟨h1, h2⟩, rfl, wkH_refl _⟩
end Go.Proofs.YtfcjgklghgpddaaDoor
