/-
  Contracts: the program's reader of templates: a byte, a text's end, the beginning of a line, a margin, a line of code.
-/
import Derived.Test.YtfcjgklghgpddaaDoorLB3
import Derived.Test.YtfcjgklghgpddaaDoorG2
namespace Go.Proofs.YtfcjgklghgpddaaDoor
open Go.AX Go.RowKit Go.Erb
set_option maxRecDepth 20000

def partC (p : Part) : List Value := [.int .i64 p.kind, .int .i64 p.line, .string (bs p.text)]
def partsC (l : List Part) : List Value := l.flatMap partC
theorem partsC_len (l : List Part) : (partsC l).length = l.length * 3 := flat_len (g := partC) (m := 3) (fun _ => rfl) l
theorem partsC_app (l m : List Part) : partsC (l ++ m) = partsC l ++ partsC m := by simp [partsC]
/-- The program's reader. -/
structure RS where
  s : List UInt8
  at_ : Nat
  line : Int
  lines : Bool
  out : List Part
  plain : List UInt8
  begun : Int
/-- .. where its slices lie. -/
structure MS where
  o : BSt
  p : BSt
def MS.ok (r : RS) (m : MS) : Prop := m.o.ok r.out.length ∧ m.p.ok r.plain.length
def RH (r : RS) (m : MS) : List Ent := [.blk 44 [.v (.string (bs r.s)), .v (.int .i64 (r.at_ : Int)), .v (.int .i64 r.line), .v (.bool r.lines), .v (.slice (at0 m.o.ob) r.out.length m.o.cap), .v (.slice (at0 m.p.ob) r.plain.length m.p.cap), .v (.int .i64 r.begun)],
  .app 35 3 (partsC r.out) (at0 m.o.ob) r.out.length m.o.cap, .app 5 1 (u8s r.plain) (at0 m.p.ob) r.plain.length m.p.cap]
theorem RH_ok (r : RS) (m : MS) : okH (RH r m).length (RH r m) := okHB_eq rfl
/-- The call hands back a value, and leaves the reader as r'. -/
def RetM (r : RS) (v : Value) : Out → List Ent → Prop := RetG (ι := MS) (fun m => m.ok r) (fun _ => v) fun m => RH r m
def unit : Value := .tuple #[]

theorem add_c (r : RS) (m : MS) (c : UInt8) (ok : m.ok r) (hl : -1000000 ≤ r.line ∧ r.line ≤ 1000000) (hp : r.plain.length ≤ 1000000) : SpecH Tryd.prog 25 [.c (.lp 0 0), .c (.v (.int .u8 (c.toNat : Int)))] (RH r m)
    (RetM { r with plain := r.plain ++ [c], begun := if r.plain.isEmpty then r.line else r.begun, line := if c = 10 then r.line + 1 else r.line } unit) := by
  refine ownC hm Tryd.func25 (by kernel_rfl) rfl rfl (fun _ _ => RH_ok _ _) (fun _ _ => Nat.le_refl _) ?_
  obtain ⟨s, at_, line, lines, out, plain, begun⟩ := r
  obtain ⟨⟨ob, oc⟩, ⟨pb, pc⟩⟩ := m
  obtain ⟨h1, h2⟩ := ok
  have hc10 : (c = 10) ↔ (c.toNat : Int) = 10 := ⟨fun h => by rw [h]; rfl, fun h => UInt8.toNat_inj.1 (by show c.toNat = 10; omega)⟩
  have key : ∀ (b' cap' : Nat), plain.length + 1 ≤ cap' → (⟨⟨ob, oc⟩, ⟨some b', cap'⟩⟩ : MS).ok ⟨s, at_, if c = 10 then line + 1 else line, lines, out, plain ++ [c], if plain.isEmpty then line else begun⟩ := fun b' cap' h => ⟨h1, (fun h => by cases h), by simpa using h, fun h2 => by have h2 : cap' = 0 := h2; omega⟩
  ((conv => whnf); (repeat ((first | refine VrN.norm (wrap_i64 (by omega)) ?_ | refine VrN.keep ?_ | refine DrawN.calm (by decide +kernel) ?_ | refine Nd.mk (by decide +kernel) ?_ | refine Nd.mk (by omega) ?_ | (refine Nd.mk ?_ ?_; focus ((repeat' (first | exact trivial | exact wkE_refl _ | refine And.intro ?_ ?_)); done)) | refine RdN.intro _ rfl (by rfl) ?_); (conv => whnf))))
  refine brd_eq (fun h0 => ?_) (fun h0 => ?_)
  · have he : plain.isEmpty = true := by
      cases plain with
      | nil => rfl
      | cons x l => simp at h0; omega
    ((conv => whnf); (repeat ((first | refine VrN.norm (wrap_i64 (by omega)) ?_ | refine VrN.keep ?_ | refine DrawN.calm (by decide +kernel) ?_ | refine Nd.mk (by decide +kernel) ?_ | refine Nd.mk (by omega) ?_ | (refine Nd.mk ?_ ?_; focus ((repeat' (first | exact trivial | exact wkE_refl _ | refine And.intro ?_ ?_)); done)) | refine RdN.intro _ rfl (by rfl) ?_); (conv => whnf))))
    refine Nd.mk ⟨by omega, rfl, rfl⟩ ?_
    (conv => whnf)
    refine AppN.grow 2 (u8s plain) _ rfl rfl ⟨by omega, ⟨by show (_ + 1) * 1 ≤ _; have : plain.length ≤ 1000000 := hp; omega, by have : plain.length ≤ 1000000 := hp; omega⟩, by decide⟩ fun b' cap' h3 h4 => ?_
    ((conv => whnf); (repeat ((first | refine VrN.norm (wrap_i64 (by omega)) ?_ | refine VrN.keep ?_ | refine DrawN.calm (by decide +kernel) ?_ | refine Nd.mk (by decide +kernel) ?_ | refine Nd.mk (by omega) ?_ | (refine Nd.mk ?_ ?_; focus ((repeat' (first | exact trivial | exact wkE_refl _ | refine And.intro ?_ ?_)); done)) | refine RdN.intro _ rfl (by rfl) ?_); (conv => whnf))))
    refine brd_eq (fun h5 => ?_) (fun h5 => ?_)
    · ((conv => whnf); (repeat ((first | refine VrN.norm (wrap_i64 (by omega)) ?_ | refine VrN.keep ?_ | refine DrawN.calm (by decide +kernel) ?_ | refine Nd.mk (by decide +kernel) ?_ | refine Nd.mk (by omega) ?_ | (refine Nd.mk ?_ ?_; focus ((repeat' (first | exact trivial | exact wkE_refl _ | refine And.intro ?_ ?_)); done)) | refine RdN.intro _ rfl (by rfl) ?_); (conv => whnf))))
      refine ⟨⟨⟨ob, oc⟩, ⟨some b', cap'⟩⟩, key b' cap' h3, rfl, ?_⟩
      have hw : IntKind.wrap .i64 (line + 1) = line + 1 := wrap_i64 (by have : line ≤ 1000000 := hl.2; have : -1000000 ≤ line := hl.1; omega)
      exact wkH_cons (by simp [hw, hc10.2 h5, he, at0]) (wkH_cons rfl (wkH_cons (by simp [u8s, at0]; rfl) (wkH_nil _)))
    · ((conv => whnf); (repeat ((first | refine VrN.norm (wrap_i64 (by omega)) ?_ | refine VrN.keep ?_ | refine DrawN.calm (by decide +kernel) ?_ | refine Nd.mk (by decide +kernel) ?_ | refine Nd.mk (by omega) ?_ | (refine Nd.mk ?_ ?_; focus ((repeat' (first | exact trivial | exact wkE_refl _ | refine And.intro ?_ ?_)); done)) | refine RdN.intro _ rfl (by rfl) ?_); (conv => whnf))))
      refine ⟨⟨⟨ob, oc⟩, ⟨some b', cap'⟩⟩, key b' cap' h3, rfl, ?_⟩
      exact wkH_cons (by simp [show ¬ c = 10 from fun h => h5 (hc10.1 h), he, at0]) (wkH_cons rfl (wkH_cons (by simp [u8s, at0]; rfl) (wkH_nil _)))
  · have he : plain.isEmpty = false := by cases plain <;> simp_all
    ((conv => whnf); (repeat ((first | refine VrN.norm (wrap_i64 (by omega)) ?_ | refine VrN.keep ?_ | refine DrawN.calm (by decide +kernel) ?_ | refine Nd.mk (by decide +kernel) ?_ | refine Nd.mk (by omega) ?_ | (refine Nd.mk ?_ ?_; focus ((repeat' (first | exact trivial | exact wkE_refl _ | refine And.intro ?_ ?_)); done)) | refine RdN.intro _ rfl (by rfl) ?_); (conv => whnf))))
    refine Nd.mk ⟨by omega, rfl, rfl⟩ ?_
    (conv => whnf)
    refine AppN.grow 2 (u8s plain) _ rfl rfl ⟨by omega, ⟨by show (_ + 1) * 1 ≤ _; have : plain.length ≤ 1000000 := hp; omega, by have : plain.length ≤ 1000000 := hp; omega⟩, by decide⟩ fun b' cap' h3 h4 => ?_
    ((conv => whnf); (repeat ((first | refine VrN.norm (wrap_i64 (by omega)) ?_ | refine VrN.keep ?_ | refine DrawN.calm (by decide +kernel) ?_ | refine Nd.mk (by decide +kernel) ?_ | refine Nd.mk (by omega) ?_ | (refine Nd.mk ?_ ?_; focus ((repeat' (first | exact trivial | exact wkE_refl _ | refine And.intro ?_ ?_)); done)) | refine RdN.intro _ rfl (by rfl) ?_); (conv => whnf))))
    refine brd_eq (fun h5 => ?_) (fun h5 => ?_)
    · ((conv => whnf); (repeat ((first | refine VrN.norm (wrap_i64 (by omega)) ?_ | refine VrN.keep ?_ | refine DrawN.calm (by decide +kernel) ?_ | refine Nd.mk (by decide +kernel) ?_ | refine Nd.mk (by omega) ?_ | (refine Nd.mk ?_ ?_; focus ((repeat' (first | exact trivial | exact wkE_refl _ | refine And.intro ?_ ?_)); done)) | refine RdN.intro _ rfl (by rfl) ?_); (conv => whnf))))
      refine ⟨⟨⟨ob, oc⟩, ⟨some b', cap'⟩⟩, key b' cap' h3, rfl, ?_⟩
      have hw : IntKind.wrap .i64 (line + 1) = line + 1 := wrap_i64 (by have : line ≤ 1000000 := hl.2; have : -1000000 ≤ line := hl.1; omega)
      exact wkH_cons (by simp [hw, hc10.2 h5, he, at0]) (wkH_cons rfl (wkH_cons (by simp [u8s, at0]; rfl) (wkH_nil _)))
    · ((conv => whnf); (repeat ((first | refine VrN.norm (wrap_i64 (by omega)) ?_ | refine VrN.keep ?_ | refine DrawN.calm (by decide +kernel) ?_ | refine Nd.mk (by decide +kernel) ?_ | refine Nd.mk (by omega) ?_ | (refine Nd.mk ?_ ?_; focus ((repeat' (first | exact trivial | exact wkE_refl _ | refine And.intro ?_ ?_)); done)) | refine RdN.intro _ rfl (by rfl) ?_); (conv => whnf))))
      refine ⟨⟨⟨ob, oc⟩, ⟨some b', cap'⟩⟩, key b' cap' h3, rfl, ?_⟩
      exact wkH_cons (by simp [show ¬ c = 10 from fun h => h5 (hc10.1 h), he, at0]) (wkH_cons rfl (wkH_cons (by simp [u8s, at0]; rfl) (wkH_nil _)))
theorem flush_c (r : RS) (m : MS) (ok : m.ok r) (hp : r.plain.length ≤ 1000000) (ho : r.out.length ≤ 1000000) : SpecH Tryd.prog 27 [.c (.lp 0 0)] (RH r m)
    (RetM { r with plain := [], out := if r.plain.isEmpty then r.out else r.out ++ [⟨0, r.begun, r.plain⟩] } unit) := by
  refine ownC hm Tryd.func27 (by kernel_rfl) rfl rfl (fun _ _ => RH_ok _ _) (fun _ _ => Nat.le_refl _) ?_
  obtain ⟨s, at_, line, lines, out, plain, begun⟩ := r
  obtain ⟨⟨ob, oc⟩, ⟨pb, pc⟩⟩ := m
  obtain ⟨h1, h2⟩ := ok
  have hp : plain.length ≤ 1000000 := hp
  have ho : out.length ≤ 1000000 := ho
  ((conv => whnf); (repeat ((first | refine VrN.norm (wrap_i64 (by omega)) ?_ | refine VrN.keep ?_ | refine DrawN.calm (by decide +kernel) ?_ | refine Nd.mk (by decide +kernel) ?_ | refine Nd.mk (by omega) ?_ | (refine Nd.mk ?_ ?_; focus ((repeat' (first | exact trivial | exact wkE_refl _ | refine And.intro ?_ ?_)); done)) | refine RdN.intro _ rfl (by rfl) ?_); (conv => whnf))))
  refine brd_dec (fun h0 => ?_) (fun h0 => ?_)
  · have he : plain.isEmpty = false := by cases plain <;> simp_all
    ((conv => whnf); (repeat ((first | refine VrN.norm (wrap_i64 (by omega)) ?_ | refine VrN.keep ?_ | refine DrawN.calm (by decide +kernel) ?_ | refine Nd.mk (by decide +kernel) ?_ | refine Nd.mk (by omega) ?_ | (refine Nd.mk ?_ ?_; focus ((repeat' (first | exact trivial | exact wkE_refl _ | refine And.intro ?_ ?_)); done)) | refine RdN.intro _ rfl (by rfl) ?_); (conv => whnf))))
    refine DrawN.plan [0, 1, 5, 9] [(2, 1), (3, 1), (4, 1), (6, 1), (7, 1), (8, 1), (10, 1), (11, 1), (12, 1), (13, 1), (14, 1), (15, 0)] [(16, 0), (17, 0), (18, 0), (19, 0)] (by decide +kernel) ?_
    ((conv => whnf); (repeat ((first | refine VrN.norm (wrap_i64 (by omega)) ?_ | refine VrN.keep ?_ | refine DrawN.calm (by decide +kernel) ?_ | refine Nd.mk (by decide +kernel) ?_ | refine Nd.mk (by omega) ?_ | (refine Nd.mk ?_ ?_; focus ((repeat' (first | exact trivial | exact wkE_refl _ | refine And.intro ?_ ?_)); done)) | refine RdN.intro _ rfl (by rfl) ?_); (conv => whnf))))
    refine ReadW.bytes (e := 5) plain rfl rfl (by kernel_rfl) (by kernel_rfl) (by kernel_rfl) rfl (fun w hw => ?_) ?_
    · have := hw.2.1
      rwa [Nat.mul_one] at this
    ((conv => whnf); (repeat ((first | refine VrN.norm (wrap_i64 (by omega)) ?_ | refine VrN.keep ?_ | refine DrawN.calm (by decide +kernel) ?_ | refine Nd.mk (by decide +kernel) ?_ | refine Nd.mk (by omega) ?_ | (refine Nd.mk ?_ ?_; focus ((repeat' (first | exact trivial | exact wkE_refl _ | refine And.intro ?_ ?_)); done)) | refine RdN.intro _ rfl (by rfl) ?_); (conv => whnf))))
    refine Nd.mk ⟨by omega, rfl, rfl⟩ ?_
    (conv => whnf)
    refine AppN.grow 1 (partsC out) _ rfl rfl ⟨by omega, ⟨by show (_ + 1) * 32 ≤ _; omega, by omega⟩, by decide⟩ fun b' cap' h3 h4 => ?_
    ((conv => whnf); (repeat ((first | refine VrN.norm (wrap_i64 (by omega)) ?_ | refine VrN.keep ?_ | refine DrawN.calm (by decide +kernel) ?_ | refine Nd.mk (by decide +kernel) ?_ | refine Nd.mk (by omega) ?_ | (refine Nd.mk ?_ ?_; focus ((repeat' (first | exact trivial | exact wkE_refl _ | refine And.intro ?_ ?_)); done)) | refine RdN.intro _ rfl (by rfl) ?_); (conv => whnf))))
    refine ⟨⟨⟨some b', cap'⟩, ⟨none, 0⟩⟩, ⟨⟨(fun h => by cases h), by simpa [he] using h3, fun h => by have h : cap' = 0 := h; omega⟩, (fun _ => ⟨rfl, rfl⟩), Nat.le_refl _, fun _ => rfl⟩, rfl, ?_⟩
    refine wkH_cons (by simp [he, at0]) (wkH_cons ?_ ⟨wkE_nil, wkH_nil _⟩)
    simp [he, at0, partsC_app]
    exact ⟨rfl, rfl⟩
  · have he : plain = [] := by cases plain <;> simp_all
    subst he
    ((conv => whnf); (repeat ((first | refine VrN.norm (wrap_i64 (by omega)) ?_ | refine VrN.keep ?_ | refine DrawN.calm (by decide +kernel) ?_ | refine Nd.mk (by decide +kernel) ?_ | refine Nd.mk (by omega) ?_ | (refine Nd.mk ?_ ?_; focus ((repeat' (first | exact trivial | exact wkE_refl _ | refine And.intro ?_ ?_)); done)) | refine RdN.intro _ rfl (by rfl) ?_); (conv => whnf))))
    exact ⟨⟨⟨ob, oc⟩, ⟨pb, pc⟩⟩, ⟨h1, h2⟩, rfl, wkH_refl _⟩
end Go.Proofs.YtfcjgklghgpddaaDoor
