/-
  Contracts: strings.Builder, own.
-/
import Derived.Test.YtfcjgklghgpddaaDoorAx22
import Derived.Test.YtfcjgklghgpddaaDoorChecked
namespace Go.Proofs.YtfcjgklghgpddaaDoor
open Go.AX Go.RowKit
set_option maxRecDepth 20000
theorem hm : Tryd.prog.follows .mixedOrders = true := by kernel_rfl

/-- What a Builder's first cell holds: nothing, or its own address. -/
def bC (u : Bool) : CV := match u with | true => .lp 0 0 | false => .v (.pointer none)
/-- A Builder of one's own that holds bytes. -/
def bH (u : Bool) (l : List UInt8) (ob : Option Nat) (cap : Nat) : List Ent := [.blk 61 [bC u, .v (.slice (at0 ob) l.length cap)], .app 5 1 (u8s l) (at0 ob) l.length cap]
theorem bH_ok (u : Bool) (l : List UInt8) (ob : Option Nat) (cap : Nat) : okH (bH u l ob cap).length (bH u l ob cap) := by cases u <;> exact okHB_eq rfl
structure BSt where
  ob : Option Nat
  cap : Nat
/-- Where a Builder's bytes lie. -/
def BSt.ok (n : Nat) (i : BSt) : Prop := (i.ob = none → n = 0 ∧ i.cap = 0) ∧ n ≤ i.cap ∧ (i.cap = 0 → i.ob = none)

theorem copyCheck_c (u : Bool) (l : List UInt8) (ob : Option Nat) (cap : Nat) : SpecH Tryd.prog 47 [.c (.lp 0 0)] (bH u l ob cap) (RetG (ι := Unit) (fun _ => True) (fun _ => .tuple #[]) fun _ => bH true l ob cap) := by
  refine ownC hm Tryd.func47 (by kernel_rfl) rfl rfl (fun _ _ => bH_ok _ _ _ _) (fun _ _ => Nat.le_refl _) ?_
  cases u with
  | false =>
    ((conv => whnf); (repeat ((first | refine VrN.norm (wrap_i64 (by omega)) ?_ | refine VrN.keep ?_ | refine DrawN.calm (by decide +kernel) ?_ | refine Nd.mk (by decide +kernel) ?_ | refine Nd.mk (by omega) ?_ | (refine Nd.mk ?_ ?_; focus ((repeat' (first | exact trivial | exact wkE_refl _ | refine And.intro ?_ ?_)); done)) | refine RdN.intro _ rfl (by rfl) ?_); (conv => whnf))))
    refine ReadW.toUnsafe 61 rfl (by kernel_rfl) (by kernel_rfl) (by kernel_rfl) rfl rfl (Nat.zero_lt_succ _) ?_
    ((conv => whnf); (repeat ((first | refine VrN.norm (wrap_i64 (by omega)) ?_ | refine VrN.keep ?_ | refine DrawN.calm (by decide +kernel) ?_ | refine Nd.mk (by decide +kernel) ?_ | refine Nd.mk (by omega) ?_ | (refine Nd.mk ?_ ?_; focus ((repeat' (first | exact trivial | exact wkE_refl _ | refine And.intro ?_ ?_)); done)) | refine RdN.intro _ rfl (by rfl) ?_); (conv => whnf))))
    refine EffW.ext (e := Extern.AbiNoEscape.same) rfl Tryd.func59 (by kernel_rfl) (by kernel_rfl) (by kernel_rfl) (by kernel_rfl) (.c (.lp 0 0)) ?_ ?_
    · ((conv => whnf); (repeat ((first | refine VrN.norm (wrap_i64 (by omega)) ?_ | refine VrN.keep ?_ | refine DrawN.calm (by decide +kernel) ?_ | refine Nd.mk (by decide +kernel) ?_ | refine Nd.mk (by omega) ?_ | (refine Nd.mk ?_ ?_; focus ((repeat' (first | exact trivial | exact wkE_refl _ | refine And.intro ?_ ?_)); done)) | refine RdN.intro _ rfl (by rfl) ?_); (conv => whnf))))
      refine ReadW.fromUnsafe 61 rfl (by kernel_rfl) (by kernel_rfl) (by kernel_rfl) rfl rfl (by show liesAt _ _ _ (2 / _) _ _ _ = true; kernel_rfl) ?_
      ((conv => whnf); (repeat ((first | refine VrN.norm (wrap_i64 (by omega)) ?_ | refine VrN.keep ?_ | refine DrawN.calm (by decide +kernel) ?_ | refine Nd.mk (by decide +kernel) ?_ | refine Nd.mk (by omega) ?_ | (refine Nd.mk ?_ ?_; focus ((repeat' (first | exact trivial | exact wkE_refl _ | refine And.intro ?_ ?_)); done)) | refine RdN.intro _ rfl (by rfl) ?_); (conv => whnf))))
      exact ⟨(), trivial, rfl, wkH_refl _⟩
    · intro ρ vs hr
      match vs, hr with
      | [v], hr => exact ⟨v, hr.1, fun w => rfl⟩
      | [], hr => exact hr.elim
      | _ :: _ :: _, hr => exact hr.2.elim
  | true =>
    ((conv => whnf); (repeat ((first | refine VrN.norm (wrap_i64 (by omega)) ?_ | refine VrN.keep ?_ | refine DrawN.calm (by decide +kernel) ?_ | refine Nd.mk (by decide +kernel) ?_ | refine Nd.mk (by omega) ?_ | (refine Nd.mk ?_ ?_; focus ((repeat' (first | exact trivial | exact wkE_refl _ | refine And.intro ?_ ?_)); done)) | refine RdN.intro _ rfl (by rfl) ?_); (conv => whnf))))
    refine ReadW.lp_nil rfl (by kernel_rfl) rfl rfl false (.inl ⟨rfl, rfl⟩) ?_
    ((conv => whnf); (repeat ((first | refine VrN.norm (wrap_i64 (by omega)) ?_ | refine VrN.keep ?_ | refine DrawN.calm (by decide +kernel) ?_ | refine Nd.mk (by decide +kernel) ?_ | refine Nd.mk (by omega) ?_ | (refine Nd.mk ?_ ?_; focus ((repeat' (first | exact trivial | exact wkE_refl _ | refine And.intro ?_ ?_)); done)) | refine RdN.intro _ rfl (by rfl) ?_); (conv => whnf))))
    refine ReadW.lp_same rfl (by kernel_rfl) rfl rfl false (.inr ⟨rfl, rfl⟩) ?_
    ((conv => whnf); (repeat ((first | refine VrN.norm (wrap_i64 (by omega)) ?_ | refine VrN.keep ?_ | refine DrawN.calm (by decide +kernel) ?_ | refine Nd.mk (by decide +kernel) ?_ | refine Nd.mk (by omega) ?_ | (refine Nd.mk ?_ ?_; focus ((repeat' (first | exact trivial | exact wkE_refl _ | refine And.intro ?_ ?_)); done)) | refine RdN.intro _ rfl (by rfl) ?_); (conv => whnf))))
    exact ⟨(), trivial, rfl, wkH_refl _⟩

theorem WriteString_c (u : Bool) (l x : List UInt8) (i0 : BSt) (ok : i0.ok l.length) (room : l.length + x.length ≤ 140737488355328) : SpecH Tryd.prog 29 [.c (.lp 0 0), .c (.v (.string (bs x)))] (bH u l i0.ob i0.cap)
    (RetG (ι := BSt) (fun i => i.ok (l ++ x).length) (fun _ => .tuple #[.int .i64 x.length, .nilIface]) fun i => bH true (l ++ x) i.ob i.cap) := by
  refine ownC hm Tryd.func29 (by kernel_rfl) rfl rfl (fun _ _ => bH_ok _ _ _ _) (fun _ _ => Nat.le_refl _) ?_
  cases u with
  | false =>
    ((conv => whnf); (repeat ((first | refine VrN.norm (wrap_i64 (by omega)) ?_ | refine VrN.keep ?_ | refine DrawN.calm (by decide +kernel) ?_ | refine Nd.mk (by decide +kernel) ?_ | refine Nd.mk (by omega) ?_ | (refine Nd.mk ?_ ?_; focus ((repeat' (first | exact trivial | exact wkE_refl _ | refine And.intro ?_ ?_)); done)) | refine RdN.intro _ rfl (by rfl) ?_); (conv => whnf))))
    refine callG (copyCheck_c false l i0.ob i0.cap) [0, 1] rfl ⟨rfl, rfl, trivial⟩ rfl fun _ _ => ?_
    ((conv => whnf); (repeat ((first | refine VrN.norm (wrap_i64 (by omega)) ?_ | refine VrN.keep ?_ | refine DrawN.calm (by decide +kernel) ?_ | refine Nd.mk (by decide +kernel) ?_ | refine Nd.mk (by omega) ?_ | (refine Nd.mk ?_ ?_; focus ((repeat' (first | exact trivial | exact wkE_refl _ | refine And.intro ?_ ?_)); done)) | refine RdN.intro _ rfl (by rfl) ?_); (conv => whnf))))
    refine EffW.appStr 1 rfl rfl rfl (by kernel_rfl) (by kernel_rfl) (by kernel_rfl) rfl rfl rfl (by rw [bs_size]; exact room) fun ob' cap' h1 h2 h3 => ?_
    rw [bs_size, bs_list] at *
    ((conv => whnf); (repeat ((first | refine VrN.norm (wrap_i64 (by omega)) ?_ | refine VrN.keep ?_ | refine DrawN.calm (by decide +kernel) ?_ | refine Nd.mk (by decide +kernel) ?_ | refine Nd.mk (by omega) ?_ | (refine Nd.mk ?_ ?_; focus ((repeat' (first | exact trivial | exact wkE_refl _ | refine And.intro ?_ ?_)); done)) | refine RdN.intro _ rfl (by rfl) ?_); (conv => whnf))))
    refine ⟨⟨ob', cap'⟩, ⟨by simpa using h1, by simpa using h2, fun h => ?_⟩, by rw [bs_size], ?_⟩
    · obtain ⟨h4, h5⟩ := h3 h
      have := ok.2.2 h4
      rw [this] at h5
      cases ob' with
      | none => rfl
      | some _ => cases h5
    · exact wkH_of_eq (by simp [bH, u8s, bC, rnC, rnCs, rnI])
  | true =>
    ((conv => whnf); (repeat ((first | refine VrN.norm (wrap_i64 (by omega)) ?_ | refine VrN.keep ?_ | refine DrawN.calm (by decide +kernel) ?_ | refine Nd.mk (by decide +kernel) ?_ | refine Nd.mk (by omega) ?_ | (refine Nd.mk ?_ ?_; focus ((repeat' (first | exact trivial | exact wkE_refl _ | refine And.intro ?_ ?_)); done)) | refine RdN.intro _ rfl (by rfl) ?_); (conv => whnf))))
    refine callG (copyCheck_c true l i0.ob i0.cap) [0, 1] rfl ⟨rfl, rfl, trivial⟩ rfl fun _ _ => ?_
    ((conv => whnf); (repeat ((first | refine VrN.norm (wrap_i64 (by omega)) ?_ | refine VrN.keep ?_ | refine DrawN.calm (by decide +kernel) ?_ | refine Nd.mk (by decide +kernel) ?_ | refine Nd.mk (by omega) ?_ | (refine Nd.mk ?_ ?_; focus ((repeat' (first | exact trivial | exact wkE_refl _ | refine And.intro ?_ ?_)); done)) | refine RdN.intro _ rfl (by rfl) ?_); (conv => whnf))))
    refine EffW.appStr 1 rfl rfl rfl (by kernel_rfl) (by kernel_rfl) (by kernel_rfl) rfl rfl rfl (by rw [bs_size]; exact room) fun ob' cap' h1 h2 h3 => ?_
    rw [bs_size, bs_list] at *
    ((conv => whnf); (repeat ((first | refine VrN.norm (wrap_i64 (by omega)) ?_ | refine VrN.keep ?_ | refine DrawN.calm (by decide +kernel) ?_ | refine Nd.mk (by decide +kernel) ?_ | refine Nd.mk (by omega) ?_ | (refine Nd.mk ?_ ?_; focus ((repeat' (first | exact trivial | exact wkE_refl _ | refine And.intro ?_ ?_)); done)) | refine RdN.intro _ rfl (by rfl) ?_); (conv => whnf))))
    refine ⟨⟨ob', cap'⟩, ⟨by simpa using h1, by simpa using h2, fun h => ?_⟩, by rw [bs_size], ?_⟩
    · obtain ⟨h4, h5⟩ := h3 h
      have := ok.2.2 h4
      rw [this] at h5
      cases ob' with
      | none => rfl
      | some _ => cases h5
    · exact wkH_of_eq (by simp [bH, u8s, bC, rnC, rnCs, rnI])
theorem WriteByte_c (u : Bool) (l : List UInt8) (x : UInt8) (i0 : BSt) (room : l.length + 1 ≤ 140737488355328) : SpecH Tryd.prog 46 [.c (.lp 0 0), .c (.v (.int .u8 (x.toNat : Int)))] (bH u l i0.ob i0.cap)
    (RetG (ι := BSt) (fun i => i.ok (l ++ [x]).length) (fun _ => .nilIface) fun i => bH true (l ++ [x]) i.ob i.cap) := by
  refine ownC hm Tryd.func46 (by kernel_rfl) rfl rfl (fun _ _ => bH_ok _ _ _ _) (fun _ _ => Nat.le_refl _) ?_
  cases u with
  | false =>
    ((conv => whnf); (repeat ((first | refine VrN.norm (wrap_i64 (by omega)) ?_ | refine VrN.keep ?_ | refine DrawN.calm (by decide +kernel) ?_ | refine Nd.mk (by decide +kernel) ?_ | refine Nd.mk (by omega) ?_ | (refine Nd.mk ?_ ?_; focus ((repeat' (first | exact trivial | exact wkE_refl _ | refine And.intro ?_ ?_)); done)) | refine RdN.intro _ rfl (by rfl) ?_); (conv => whnf))))
    refine callG (copyCheck_c false l i0.ob i0.cap) [0, 1] rfl ⟨rfl, rfl, trivial⟩ rfl fun _ _ => ?_
    ((conv => whnf); (repeat ((first | refine VrN.norm (wrap_i64 (by omega)) ?_ | refine VrN.keep ?_ | refine DrawN.calm (by decide +kernel) ?_ | refine Nd.mk (by decide +kernel) ?_ | refine Nd.mk (by omega) ?_ | (refine Nd.mk ?_ ?_; focus ((repeat' (first | exact trivial | exact wkE_refl _ | refine And.intro ?_ ?_)); done)) | refine RdN.intro _ rfl (by rfl) ?_); (conv => whnf))))
    refine Nd.mk ⟨by omega, rfl, rfl⟩ ?_
    (conv => whnf)
    refine AppN.grow 1 (u8s l) _ rfl rfl ⟨by omega, ⟨by show (_ + 1) * 1 ≤ _; omega, by omega⟩, by decide⟩ fun b' cap' h1 h2 => ?_
    ((conv => whnf); (repeat ((first | refine VrN.norm (wrap_i64 (by omega)) ?_ | refine VrN.keep ?_ | refine DrawN.calm (by decide +kernel) ?_ | refine Nd.mk (by decide +kernel) ?_ | refine Nd.mk (by omega) ?_ | (refine Nd.mk ?_ ?_; focus ((repeat' (first | exact trivial | exact wkE_refl _ | refine And.intro ?_ ?_)); done)) | refine RdN.intro _ rfl (by rfl) ?_); (conv => whnf))))
    refine ⟨⟨some b', cap'⟩, ⟨(fun h => by cases h), by simpa using h1, fun h => by have h : cap' = 0 := h; omega⟩, rfl, ?_⟩
    unfold bH
    exact wkH_cons (by simp [bC, at0, rnC, rnCs, rnI]) (wkH_cons (by simp [u8s, at0]; rfl) (wkH_nil _))
  | true =>
    ((conv => whnf); (repeat ((first | refine VrN.norm (wrap_i64 (by omega)) ?_ | refine VrN.keep ?_ | refine DrawN.calm (by decide +kernel) ?_ | refine Nd.mk (by decide +kernel) ?_ | refine Nd.mk (by omega) ?_ | (refine Nd.mk ?_ ?_; focus ((repeat' (first | exact trivial | exact wkE_refl _ | refine And.intro ?_ ?_)); done)) | refine RdN.intro _ rfl (by rfl) ?_); (conv => whnf))))
    refine callG (copyCheck_c true l i0.ob i0.cap) [0, 1] rfl ⟨rfl, rfl, trivial⟩ rfl fun _ _ => ?_
    ((conv => whnf); (repeat ((first | refine VrN.norm (wrap_i64 (by omega)) ?_ | refine VrN.keep ?_ | refine DrawN.calm (by decide +kernel) ?_ | refine Nd.mk (by decide +kernel) ?_ | refine Nd.mk (by omega) ?_ | (refine Nd.mk ?_ ?_; focus ((repeat' (first | exact trivial | exact wkE_refl _ | refine And.intro ?_ ?_)); done)) | refine RdN.intro _ rfl (by rfl) ?_); (conv => whnf))))
    refine Nd.mk ⟨by omega, rfl, rfl⟩ ?_
    (conv => whnf)
    refine AppN.grow 1 (u8s l) _ rfl rfl ⟨by omega, ⟨by show (_ + 1) * 1 ≤ _; omega, by omega⟩, by decide⟩ fun b' cap' h1 h2 => ?_
    ((conv => whnf); (repeat ((first | refine VrN.norm (wrap_i64 (by omega)) ?_ | refine VrN.keep ?_ | refine DrawN.calm (by decide +kernel) ?_ | refine Nd.mk (by decide +kernel) ?_ | refine Nd.mk (by omega) ?_ | (refine Nd.mk ?_ ?_; focus ((repeat' (first | exact trivial | exact wkE_refl _ | refine And.intro ?_ ?_)); done)) | refine RdN.intro _ rfl (by rfl) ?_); (conv => whnf))))
    refine ⟨⟨some b', cap'⟩, ⟨(fun h => by cases h), by simpa using h1, fun h => by have h : cap' = 0 := h; omega⟩, rfl, ?_⟩
    unfold bH
    exact wkH_cons (by simp [bC, at0, rnC, rnCs, rnI]) (wkH_cons (by simp [u8s, at0]; rfl) (wkH_nil _))
theorem BString_c (u : Bool) (l : List UInt8) (i0 : BSt) (ok : i0.ok l.length) : SpecH Tryd.prog 32 [.c (.lp 0 0)] (bH u l i0.ob i0.cap)
    (RetG (ι := Unit) (fun _ => True) (fun _ => .string (bs l)) fun _ => [.dead, .dead]) := by
  refine ownC hm Tryd.func32 (by kernel_rfl) rfl rfl (fun _ _ => ⟨trivial, trivial, trivial⟩) (fun _ _ => Nat.le_refl _) ?_
  ((conv => whnf); (repeat ((first | refine VrN.norm (wrap_i64 (by omega)) ?_ | refine VrN.keep ?_ | refine DrawN.calm (by decide +kernel) ?_ | refine Nd.mk (by decide +kernel) ?_ | refine Nd.mk (by omega) ?_ | (refine Nd.mk ?_ ?_; focus ((repeat' (first | exact trivial | exact wkE_refl _ | refine And.intro ?_ ?_)); done)) | refine RdN.intro _ rfl (by rfl) ?_); (conv => whnf))))
  refine DrawN.plan [0, 5] [(1, 1), (2, 1), (3, 1), (4, 1), (6, 1), (7, 1), (8, 1), (9, 1)] [(10, 0), (11, 0)] (by decide +kernel) ?_
  ((conv => whnf); (repeat ((first | refine VrN.norm (wrap_i64 (by omega)) ?_ | refine VrN.keep ?_ | refine DrawN.calm (by decide +kernel) ?_ | refine Nd.mk (by decide +kernel) ?_ | refine Nd.mk (by omega) ?_ | (refine Nd.mk ?_ ?_; focus ((repeat' (first | exact trivial | exact wkE_refl _ | refine And.intro ?_ ?_)); done)) | refine RdN.intro _ rfl (by rfl) ?_); (conv => whnf))))
  refine ReadW.sliceData rfl rfl rfl (fun h h2 => h (ok.2.2 h2)) ?_
  ((conv => whnf); (repeat ((first | refine VrN.norm (wrap_i64 (by omega)) ?_ | refine VrN.keep ?_ | refine DrawN.calm (by decide +kernel) ?_ | refine Nd.mk (by decide +kernel) ?_ | refine Nd.mk (by omega) ?_ | (refine Nd.mk ?_ ?_; focus ((repeat' (first | exact trivial | exact wkE_refl _ | refine And.intro ?_ ?_)); done)) | refine RdN.intro _ rfl (by rfl) ?_); (conv => whnf))))
  refine EffW.usStr 1 l rfl rfl rfl rfl (by kernel_rfl) (by kernel_rfl) rfl rfl rfl ?_
  ((conv => whnf); (repeat ((first | refine VrN.norm (wrap_i64 (by omega)) ?_ | refine VrN.keep ?_ | refine DrawN.calm (by decide +kernel) ?_ | refine Nd.mk (by decide +kernel) ?_ | refine Nd.mk (by omega) ?_ | (refine Nd.mk ?_ ?_; focus ((repeat' (first | exact trivial | exact wkE_refl _ | refine And.intro ?_ ?_)); done)) | refine RdN.intro _ rfl (by rfl) ?_); (conv => whnf))))
  exact ⟨(), trivial, rfl, trivial, trivial, trivial⟩
end Go.Proofs.YtfcjgklghgpddaaDoor
