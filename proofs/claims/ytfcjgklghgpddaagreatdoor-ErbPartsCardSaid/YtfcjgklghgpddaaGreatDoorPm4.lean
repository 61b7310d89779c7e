/-
  Lemmas (LB2 R0 Ax28 Ax29 Ax25 Ax30 Q1 Q2 O1 O2 LB3 G1 G2 G4 G5).
-/
import Derived.Lib.CutLaws
import Derived.Lib.ReplaceLaws
import Derived.Test.YtfcjgklghgpddaaGreatDoorRows
import Derived.LaidOnce
import Derived.Laws.IdiomCopy
import Derived.Laws.MakeOwn
import Derived.Laws.IdiomStrings
import Derived.Test.YtfcjgklghgpddaaGreatDoorChecked
import Derived.Tactics
import Derived.Tactics2
import Derived.Defers
import Derived.Laws.Pointers
import Derived.Laws.LoneSync
import Derived.RegionTactic
import Derived.RegionCalls
import Derived.ChangeAlike
import Derived.Test.YtfcjgklghgpddaaGreatDoorPm3
/-
  Contracts: functions of package strings that only read (by the shelf); Builder's Grow; Replace.
-/
namespace Go.Proofs.YtfcjgklghgpddaaGreatDoor
open Go.AX Go.RowKit
set_option maxRecDepth 20000

/-- A variable of the library holds some number. -/
def MaxF (w : World) : Prop := ∃ m, w.cell? ⟨0, 0, none⟩ = some (.int .i64 m)

theorem HasPrefix_c (s p : List UInt8) : ∀ H, SpecH Tryz.prog 29 (pvs [.string (bs s), .string (bs p)]) H (Ret (.bool (p.isPrefixOf s)) H) := fun H =>
  SpecH.rawP (R := fun r => r = .bool (p.isPrefixOf s)) (callOk Tryz.func29 (by kernel_rfl) rfl)
    (fun w _ => (Tryz.strings_HasPrefix (bs s) (bs p) w).mono fun e w' ⟨he, hw⟩ => ⟨_, he, by rw [bs_list, bs_list]; rfl, by subst hw; exact Below.refl _ _⟩) fun r hr => by subst hr; exact ⟨rfl, rfl⟩
theorem HasSuffix_c (s p : List UInt8) (hs : s.length ≤ 9223372036854775807) : ∀ H, SpecH Tryz.prog 84 (pvs [.string (bs s), .string (bs p)]) H (Ret (.bool (p.isSuffixOf s)) H) := fun H =>
  SpecH.rawP (R := fun r => r = .bool (p.isSuffixOf s)) (callOk Tryz.func84 (by kernel_rfl) rfl)
    (fun w _ => (Tryz.strings_HasSuffix (bs s) (bs p) w (by rw [bs_size]; exact hs)).mono fun e w' ⟨he, hw⟩ => ⟨_, he, by rw [bs_list, bs_list]; rfl, by subst hw; exact Below.refl _ _⟩) fun r hr => by subst hr; exact ⟨rfl, rfl⟩
theorem Count1_c (s : List UInt8) (c : UInt8) : ∀ H, SpecH Tryz.prog 62 (pvs [.string (bs s), .string (bs [c])]) H (Ret (.int .i64 (s.count c : Nat)) H) := fun H =>
  SpecH.rawP (R := fun r => r = .int .i64 (s.count c : Nat)) (callOk Tryz.func62 (by kernel_rfl) rfl)
    (fun w _ => (Tryz.strings_Count_one (bs s) c w).mono fun e w' ⟨he, hw⟩ => ⟨_, he, by rw [bs_list]; rfl, by subst hw; exact Below.refl _ _⟩) fun r hr => by subst hr; exact ⟨rfl, rfl⟩
theorem Index_c (s p : List UInt8) (hs : s.length < 4294967281) : ∀ H, (∀ w, Facts H w → MaxF w) → SpecH Tryz.prog 64 (pvs [.string (bs s), .string (bs p)]) H (Ret (.int .i64 (Lib.index s p)) H) := fun H hF =>
  SpecH.rawP (R := fun r => r = .int .i64 (Lib.index s p)) (callOk Tryz.func64 (by kernel_rfl) rfl)
    (fun w hw => by
      obtain ⟨m, hm⟩ := hF w hw
      exact (Tryz.strings_Index (bs s) (bs p) m w (by rw [bs_size]; exact hs) hm).mono fun e w' ⟨he, hw⟩ => ⟨_, he, by rw [bs_list, bs_list], by subst hw; exact Below.refl _ _⟩) fun r hr => by subst hr; exact ⟨rfl, rfl⟩
theorem Cut_c (s p : List UInt8) (hs : s.length < 4294967281) : ∀ H, (∀ w, Facts H w → MaxF w) → SpecH Tryz.prog 48 (pvs [.string (bs s), .string (bs p)]) H (Ret (.tuple #[.string (bs (Lib.cut s p).1), .string (bs (Lib.cut s p).2.1), .bool (Lib.cut s p).2.2]) H) := fun H hF =>
  SpecH.rawP (R := fun r => r = .tuple #[.string (bs (Lib.cut s p).1), .string (bs (Lib.cut s p).2.1), .bool (Lib.cut s p).2.2]) (callOk Tryz.func48 (by kernel_rfl) rfl)
    (fun w hw => by
      obtain ⟨m, hm⟩ := hF w hw
      exact (Tryz.strings_Cut (bs s) (bs p) m w (by rw [bs_size]; exact hs) hm).mono fun e w' ⟨he, hw⟩ => ⟨_, he, by rw [bs_list, bs_list]; rfl, by obtain ⟨n, rfl⟩ := hw; exact ⟨rfl, rfl, rfl, Nat.le_refl _, fun _ _ => rfl⟩⟩) fun r hr => by subst hr; exact ⟨rfl, rfl⟩

/-! ### Builder's Grow, where nothing is written yet -/
theorem grow_c (n : Nat) (h0 : 1 ≤ n) (hn : n ≤ 140737488355328) : SpecH Tryz.prog 80 [.c (.lp 0 0), .c (.v (.int .i64 (n : Int)))] (bH true [] none 0)
    (RetG (ι := BSt) (fun i => i.ok 0) (fun _ => .tuple #[]) fun i => bH true [] i.ob i.cap) := by
  refine ownC hm Tryz.func80 (by kernel_rfl) rfl rfl (fun _ _ => bH_ok _ _ _ _) (fun _ _ => Nat.le_refl _) ?_
  ((conv => whnf); (repeat ((first | refine BoxN.own ?_ | refine VrN.norm (wrap_i64 (by omega)) ?_ | refine VrN.keep ?_ | refine DrawN.calm (by decide +kernel) ?_ | refine Nd.mk (by decide +kernel) ?_ | refine Nd.mk (by omega) ?_ | (refine Nd.mk ?_ ?_; focus ((repeat' (first | exact trivial | exact wkE_refl _ | refine And.intro ?_ ?_)); done)) | refine RdN.intro _ rfl (by rfl) ?_); (conv => whnf))))
  refine DrawN.plan [0, 6, 9] [(1, 1), (2, 1), (3, 1), (4, 1), (5, 1), (7, 1), (10, 1), (11, 1), (12, 1), (13, 1), (8, 0), (14, 1), (15, 1)] [] (by decide +kernel) ?_
  ((conv => whnf); (repeat ((first | refine BoxN.own ?_ | refine VrN.norm (wrap_i64 (by omega)) ?_ | refine VrN.keep ?_ | refine DrawN.calm (by decide +kernel) ?_ | refine Nd.mk (by decide +kernel) ?_ | refine Nd.mk (by omega) ?_ | (refine Nd.mk ?_ ?_; focus ((repeat' (first | exact trivial | exact wkE_refl _ | refine And.intro ?_ ?_)); done)) | refine RdN.intro _ rfl (by rfl) ?_); (conv => whnf))))
  refine EffW.noZero 1 (n := n) (ps := #[3]) (t := 22) (e := 5) rfl Tryz.func94 (by kernel_rfl) (by kernel_rfl) (by kernel_rfl) (by kernel_rfl) (by kernel_rfl) rfl (av_int (by have e : IntKind.wrap .i64 (2 * ((0 : Nat) : Int)) = 0 := wrap_i64 (by omega); rw [e, wrap_i64 (by omega)]; omega)) hn rfl fun b cap xs h1 h2 => ?_
  ((conv => whnf); (repeat ((first | refine BoxN.own ?_ | refine VrN.norm (wrap_i64 (by omega)) ?_ | refine VrN.keep ?_ | refine DrawN.calm (by decide +kernel) ?_ | refine Nd.mk (by decide +kernel) ?_ | refine Nd.mk (by omega) ?_ | (refine Nd.mk ?_ ?_; focus ((repeat' (first | exact trivial | exact wkE_refl _ | refine And.intro ?_ ?_)); done)) | refine RdN.intro _ rfl (by rfl) ?_); (conv => whnf))))
  refine Nd.mk ⟨wkE_refl _, wkE_nil, trivial⟩ ?_
  ((conv => whnf); (repeat ((first | refine BoxN.own ?_ | refine VrN.norm (wrap_i64 (by omega)) ?_ | refine VrN.keep ?_ | refine DrawN.calm (by decide +kernel) ?_ | refine Nd.mk (by decide +kernel) ?_ | refine Nd.mk (by omega) ?_ | (refine Nd.mk ?_ ?_; focus ((repeat' (first | exact trivial | exact wkE_refl _ | refine And.intro ?_ ?_)); done)) | refine RdN.intro _ rfl (by rfl) ?_); (conv => whnf))))
  refine ReadW.slc_h (ob := some b) rfl (by kernel_rfl) rfl rfl ⟨by simp, by simp⟩ ?_
  ((conv => whnf); (repeat ((first | refine BoxN.own ?_ | refine VrN.norm (wrap_i64 (by omega)) ?_ | refine VrN.keep ?_ | refine DrawN.calm (by decide +kernel) ?_ | refine Nd.mk (by decide +kernel) ?_ | refine Nd.mk (by omega) ?_ | (refine Nd.mk ?_ ?_; focus ((repeat' (first | exact trivial | exact wkE_refl _ | refine And.intro ?_ ?_)); done)) | refine RdN.intro _ rfl (by rfl) ?_); (conv => whnf))))
  refine EffW.copy0 (e := 5) rfl rfl rfl (by kernel_rfl) (by kernel_rfl) rfl rfl ?_
  ((conv => whnf); (repeat ((first | refine BoxN.own ?_ | refine VrN.norm (wrap_i64 (by omega)) ?_ | refine VrN.keep ?_ | refine DrawN.calm (by decide +kernel) ?_ | refine Nd.mk (by decide +kernel) ?_ | refine Nd.mk (by omega) ?_ | (refine Nd.mk ?_ ?_; focus ((repeat' (first | exact trivial | exact wkE_refl _ | refine And.intro ?_ ?_)); done)) | refine RdN.intro _ rfl (by rfl) ?_); (conv => whnf))))
  exact ⟨⟨some b, cap⟩, ⟨(fun h => by cases h), Nat.zero_le _, fun h => by have h : cap = 0 := h; omega⟩, rfl, wkE_refl _, wkE_cut (Nat.zero_le _) (by simp [u8s]), trivial⟩
theorem Grow_c (n : Nat) (hn : n ≤ 140737488355328) : SpecH Tryz.prog 63 [.c (.lp 0 0), .c (.v (.int .i64 (n : Int)))] (bH false [] none 0)
    (RetG (ι := BSt) (fun i => i.ok 0) (fun _ => .tuple #[]) fun i => bH true [] i.ob i.cap) := by
  refine ownC hm Tryz.func63 (by kernel_rfl) rfl rfl (fun _ _ => bH_ok _ _ _ _) (fun _ _ => Nat.le_refl _) ?_
  ((conv => whnf); (repeat ((first | refine BoxN.own ?_ | refine VrN.norm (wrap_i64 (by omega)) ?_ | refine VrN.keep ?_ | refine DrawN.calm (by decide +kernel) ?_ | refine Nd.mk (by decide +kernel) ?_ | refine Nd.mk (by omega) ?_ | (refine Nd.mk ?_ ?_; focus ((repeat' (first | exact trivial | exact wkE_refl _ | refine And.intro ?_ ?_)); done)) | refine RdN.intro _ rfl (by rfl) ?_); (conv => whnf))))
  refine callG (copyCheck_c false [] none 0) [0, 1] rfl ⟨rfl, rfl, trivial⟩ rfl fun _ _ => ?_
  ((conv => whnf); (repeat ((first | refine BoxN.own ?_ | refine VrN.norm (wrap_i64 (by omega)) ?_ | refine VrN.keep ?_ | refine DrawN.calm (by decide +kernel) ?_ | refine Nd.mk (by decide +kernel) ?_ | refine Nd.mk (by omega) ?_ | (refine Nd.mk ?_ ?_; focus ((repeat' (first | exact trivial | exact wkE_refl _ | refine And.intro ?_ ?_)); done)) | refine RdN.intro _ rfl (by rfl) ?_); (conv => whnf))))
  have e : IntKind.wrap .i64 (((0 : Nat) : Int) - ((([] : List UInt8).length : Nat) : Int)) = 0 := wrap_i64 (by simp)
  rw [e]
  refine brd_dec (fun h => ?_) (fun h => ?_)
  · ((conv => whnf); (repeat ((first | refine BoxN.own ?_ | refine VrN.norm (wrap_i64 (by omega)) ?_ | refine VrN.keep ?_ | refine DrawN.calm (by decide +kernel) ?_ | refine Nd.mk (by decide +kernel) ?_ | refine Nd.mk (by omega) ?_ | (refine Nd.mk ?_ ?_; focus ((repeat' (first | exact trivial | exact wkE_refl _ | refine And.intro ?_ ?_)); done)) | refine RdN.intro _ rfl (by rfl) ?_); (conv => whnf))))
    refine callG (grow_c n (by omega) hn) [0, 1] rfl ⟨rfl, rfl, trivial⟩ rfl fun i hi => ?_
    ((conv => whnf); (repeat ((first | refine BoxN.own ?_ | refine VrN.norm (wrap_i64 (by omega)) ?_ | refine VrN.keep ?_ | refine DrawN.calm (by decide +kernel) ?_ | refine Nd.mk (by decide +kernel) ?_ | refine Nd.mk (by omega) ?_ | (refine Nd.mk ?_ ?_; focus ((repeat' (first | exact trivial | exact wkE_refl _ | refine And.intro ?_ ?_)); done)) | refine RdN.intro _ rfl (by rfl) ?_); (conv => whnf))))
    exact ⟨i, hi, rfl, wkH_of_eq (by simp [bH, bC, rnE, rnC, rnCs, rnI])⟩
  · ((conv => whnf); (repeat ((first | refine BoxN.own ?_ | refine VrN.norm (wrap_i64 (by omega)) ?_ | refine VrN.keep ?_ | refine DrawN.calm (by decide +kernel) ?_ | refine Nd.mk (by decide +kernel) ?_ | refine Nd.mk (by omega) ?_ | (refine Nd.mk ?_ ?_; focus ((repeat' (first | exact trivial | exact wkE_refl _ | refine And.intro ?_ ?_)); done)) | refine RdN.intro _ rfl (by rfl) ?_); (conv => whnf))))
    exact ⟨⟨none, 0⟩, ⟨(fun _ => ⟨rfl, rfl⟩), Nat.le_refl _, fun _ => rfl⟩, rfl, wkH_of_eq (by simp [bH, bC, rnE, rnC, rnCs, rnI])⟩

/-! ### Replace -/
theorem count_mul (old : List UInt8) (h1 : 1 ≤ old.length) (s : List UInt8) : Lib.count s old * old.length ≤ s.length := by
  have h := Lib.countB_mul_le (bs old) (by rw [bs_size]; exact h1) (bs s).size (bs s) (Nat.le_refl _)
  rw [Lib.countB, bs_list, bs_list, bs_size, bs_size] at h
  exact h
theorem replaceK_len (old new : List UInt8) (h1 : 1 ≤ old.length) : ∀ (k : Nat) (s : List UInt8), (Lib.replaceK old new k s).length ≤ s.length + k * new.length
  | 0, s => by simp [Lib.replaceK]
  | k + 1, s => by
    unfold Lib.replaceK
    split
    · rw [Nat.add_mul]; omega
    · have ih := replaceK_len old new h1 k (s.drop ((Lib.index s old).toNat + old.length))
      have hr := Lib.index_ge s old
      rename_i hm
      have h2 := Lib.index_room s old (by
        have : Lib.index s old ≠ -1 := fun e => hm (by simp [e])
        omega)
      simp only [List.length_append, List.length_take, List.length_drop] at ih ⊢
      rw [Nat.add_mul, Nat.one_mul]
      omega
/-- How far the loop has come: what is left is replaced as all would be. -/
structure RpOk (s old new : List UInt8) (k : Nat) (i : Nat) (out : List UInt8) (st : Nat) : Prop where
  le : i ≤ k
  hst : st ≤ s.length
  cnt : k - i ≤ Lib.count (s.drop st) old
  eq : out ++ Lib.replaceK old new (k - i) (s.drop st) = Lib.replaceK old new k s
  len : out.length ≤ st + i * new.length
theorem RpOk.step {s old new : List UInt8} {k i : Nat} {out : List UInt8} {st : Nat} (h1 : 1 ≤ old.length) (h : RpOk s old new k i out st) (hi : i < k) :
    ∃ x : Nat, Lib.index (s.drop st) old = x ∧ st + x + old.length ≤ s.length ∧ RpOk s old new k (i + 1) (out ++ (s.take (st + x)).drop st ++ new) (st + x + old.length) := by
  obtain ⟨x, hx⟩ := Lib.index_of_count (s := s.drop st) (old := old) (by have := h.cnt; omega)
  have hroom := Lib.index_room (s.drop st) old (by omega)
  rw [hx, List.length_drop] at hroom
  have hst := h.hst
  have hd : (s.drop st).drop (x + old.length) = s.drop (st + x + old.length) := by rw [List.drop_drop]; congr 1; omega
  have ht : (s.drop st).take x = (s.take (st + x)).drop st := by rw [List.drop_take]; congr 1; omega
  refine ⟨x, hx, by omega, by omega, by omega, ?_, ?_, ?_⟩
  · have := Lib.count_hit (s := s.drop st) (sub := old) (i := x) (fun e => by rw [e] at h1; simp at h1) hx
    rw [hd] at this
    have := h.cnt
    omega
  · have h2 := h.eq
    rw [show k - i = (k - (i + 1)) + 1 by omega, Lib.replaceK_hit old new _ _ x hx, hd, ht] at h2
    rw [← h2]
    simp
  · have := h.len
    simp only [List.length_append, List.length_drop, List.length_take, Nat.add_mul]
    omega
def rpl (old new s : List UInt8) : List UInt8 := Lib.replaceK old new (Lib.count s old) s
theorem rpl_len (old new s : List UInt8) (h1 : 1 ≤ old.length) : (rpl old new s).length ≤ s.length + s.length * new.length := by
  have h2 := replaceK_len old new h1 (Lib.count s old) s
  have h3 := count_mul old h1 s
  have h4 : Lib.count s old ≤ s.length := Nat.le_trans (Nat.le_mul_of_pos_right _ h1) h3
  have h5 : Lib.count s old * new.length ≤ s.length * new.length := Nat.mul_le_mul_right _ h4
  unfold rpl
  omega
theorem Replace_c (old new s : List UInt8) (h1 : 1 ≤ old.length) (hl : old.length ≤ 100) (hn : new.length ≤ 100) (hne : old ≠ new) (hc : ∀ H, (∀ w, Facts H w → MaxF w) → SpecH Tryz.prog 62 (pvs [.string (bs s), .string (bs old)]) H (Ret (.int .i64 (Lib.count s old : Nat)) H)) (hs : s.length ≤ 1000000) : ∀ H, (∀ w, Facts H w → MaxF w) →
    SpecH Tryz.prog 39 (pvs [.string (bs s), .string (bs old), .string (bs new), .int .i64 (-1)]) H (Ret (.string (bs (rpl old new s))) H) := by
  refine factC hm Tryz.func39 (by kernel_rfl) rfl rfl ?_
  have hcm := count_mul old h1 s
  have hk : Lib.count s old ≤ s.length := Nat.le_trans (Nat.le_mul_of_pos_right _ h1) hcm
  have hkn : Lib.count s old * new.length ≤ 1000000 * 100 := Nat.mul_le_mul (by omega) hn
  have hlt := rpl_len old new s h1
  ((conv => whnf); (repeat ((first | refine BoxN.own ?_ | refine VrN.norm (wrap_i64 (by omega)) ?_ | refine VrN.keep ?_ | refine DrawN.calm (by decide +kernel) ?_ | refine Nd.mk (by decide +kernel) ?_ | refine Nd.mk (by omega) ?_ | (refine Nd.mk ?_ ?_; focus ((repeat' (first | exact trivial | exact wkE_refl _ | refine And.intro ?_ ?_)); done)) | refine RdN.intro _ rfl (by rfl) ?_); (conv => whnf))))
  refine brdF (by rw [bs_list, bs_list]; simpa using hne) ?_
  ((conv => whnf); (repeat ((first | refine BoxN.own ?_ | refine VrN.norm (wrap_i64 (by omega)) ?_ | refine VrN.keep ?_ | refine DrawN.calm (by decide +kernel) ?_ | refine Nd.mk (by decide +kernel) ?_ | refine Nd.mk (by omega) ?_ | (refine Nd.mk ?_ ?_; focus ((repeat' (first | exact trivial | exact wkE_refl _ | refine And.intro ?_ ?_)); done)) | refine RdN.intro _ rfl (by rfl) ?_); (conv => whnf))))
  refine call1 (hc _ fun w hw => hw.1) ?_
  ((conv => whnf); (repeat ((first | refine BoxN.own ?_ | refine VrN.norm (wrap_i64 (by omega)) ?_ | refine VrN.keep ?_ | refine DrawN.calm (by decide +kernel) ?_ | refine Nd.mk (by decide +kernel) ?_ | refine Nd.mk (by omega) ?_ | (refine Nd.mk ?_ ?_; focus ((repeat' (first | exact trivial | exact wkE_refl _ | refine And.intro ?_ ?_)); done)) | refine RdN.intro _ rfl (by rfl) ?_); (conv => whnf))))
  refine brd_eq (fun h => ?_) (fun h => ?_)
  · have h0 : Lib.count s old = 0 := by omega
    have e : rpl old new s = s := by unfold rpl; rw [h0]; rfl
    rw [e]
    ((conv => whnf); (repeat ((first | refine BoxN.own ?_ | refine VrN.norm (wrap_i64 (by omega)) ?_ | refine VrN.keep ?_ | refine DrawN.calm (by decide +kernel) ?_ | refine Nd.mk (by decide +kernel) ?_ | refine Nd.mk (by omega) ?_ | (refine Nd.mk ?_ ?_; focus ((repeat' (first | exact trivial | exact wkE_refl _ | refine And.intro ?_ ?_)); done)) | refine RdN.intro _ rfl (by rfl) ?_); (conv => whnf))))
  · ((conv => whnf); (repeat ((first | refine BoxN.own ?_ | refine VrN.norm (wrap_i64 (by omega)) ?_ | refine VrN.keep ?_ | refine DrawN.calm (by decide +kernel) ?_ | refine Nd.mk (by decide +kernel) ?_ | refine Nd.mk (by omega) ?_ | (refine Nd.mk ?_ ?_; focus ((repeat' (first | exact trivial | exact wkE_refl _ | refine And.intro ?_ ?_)); done)) | refine RdN.intro _ rfl (by rfl) ?_); (conv => whnf))))
    have harg : ∃ g : Nat, g ≤ 1000000 + 100000000 ∧ IntKind.wrap .i64 (((bs s).size : Int) + IntKind.wrap .i64 ((Lib.count s old : Int) * IntKind.wrap .i64 (((bs new).size : Int) - ((bs old).size : Int)))) = (g : Int) := by
      rw [bs_size, bs_size, bs_size, wrap_i64 (x := (new.length : Int) - old.length) (by omega), Int.mul_sub]
      have e1 : (Lib.count s old : Int) * (new.length : Int) = ((Lib.count s old * new.length : Nat) : Int) := by push_cast; rfl
      have e2 : (Lib.count s old : Int) * (old.length : Int) = ((Lib.count s old * old.length : Nat) : Int) := by push_cast; rfl
      rw [e1, e2]
      refine ⟨s.length + Lib.count s old * new.length - Lib.count s old * old.length, by omega, ?_⟩
      rw [wrap_i64 (x := ((Lib.count s old * new.length : Nat) : Int) - ((Lib.count s old * old.length : Nat) : Int)) (by omega), wrap_i64 (by omega)]
      omega
    obtain ⟨g, hg, hge⟩ := harg
    rw [hge]
    refine SpecH.pad [.app 5 1 [] none 0 0] rfl ?_
    refine callG (Grow_c g (by omega)) [1, 2] rfl ⟨rfl, rfl, trivial⟩ rfl fun i0 hok => ?_
    ((conv => whnf); (repeat ((first | refine BoxN.own ?_ | refine VrN.norm (wrap_i64 (by omega)) ?_ | refine VrN.keep ?_ | refine DrawN.calm (by decide +kernel) ?_ | refine Nd.mk (by decide +kernel) ?_ | refine Nd.mk (by omega) ?_ | (refine Nd.mk ?_ ?_; focus ((repeat' (first | exact trivial | exact wkE_refl _ | refine And.intro ?_ ?_)); done)) | refine RdN.intro _ rfl (by rfl) ?_); (conv => whnf))))
    refine brd_dec (fun _ => ?_) (fun hno => by rw [bs_size] at hno; omega)
    ((conv => whnf); (repeat ((first | refine BoxN.own ?_ | refine VrN.norm (wrap_i64 (by omega)) ?_ | refine VrN.keep ?_ | refine DrawN.calm (by decide +kernel) ?_ | refine Nd.mk (by decide +kernel) ?_ | refine Nd.mk (by omega) ?_ | (refine Nd.mk ?_ ?_; focus ((repeat' (first | exact trivial | exact wkE_refl _ | refine And.intro ?_ ?_)); done)) | refine RdN.intro _ rfl (by rfl) ?_); (conv => whnf))))
    refine LoopN.intro (Nat × List UInt8 × Nat × BSt) (fun ⟨i, out, st, b⟩ => RpOk s old new (Lib.count s old) i out st ∧ b.ok out.length) (fun ⟨i, out, st, b⟩ => mkS Tryz.f39.ntmps 0 [(0, .c (.v (.string (bs s)))), (1, .c (.v (.string (bs old)))), (2, .c (.v (.string (bs new)))), (10, .c (.lp 1 0)), (11, .c (.v (.int .i64 (st : Int)))), (52, .c (.v (.int .i64 (Lib.count s old : Nat)))), (53, .c (.v (.int .i64 (i : Int))))])
      (fun ⟨i, out, st, b⟩ => [.fact MaxF, .blk 52 [.lp 1 0, .v (.slice (at0 b.ob) out.length b.cap)], .app 5 1 (u8s out) (at0 b.ob) out.length b.cap]) (fun ⟨i, _⟩ => Lib.count s old - i) [] rfl
      (fun _ => rfl) (fun _ => rfl) (fun _ _ => okHB_eq rfl) ⟨⟨0, [], 0, i0⟩, ⟨⟨by omega, by omega, by simp, by simp, by simp⟩, hok⟩, ?_, ?_⟩ ?_
    · (repeat' (first | exact trivial | refine And.intro (by with_reducible rfl) ?_ | (with_reducible exact wkC_refl _) | (with_reducible exact wkCs_refl _) | refine And.intro ?_ ?_))
      all_goals rfl
    · exact wkH_of_eq (by simp [bC, rnE, rnC, rnCs, rnI])
    rintro ⟨i, out, st, b⟩ ⟨hi, hok⟩
    have hlen := hi.len
    have hst := hi.hst
    have hle := hi.le
    have hin : i * new.length ≤ Lib.count s old * new.length := Nat.mul_le_mul_right _ hle
    ((conv => whnf); (repeat ((first | refine BoxN.own ?_ | refine VrN.norm (wrap_i64 (by omega)) ?_ | refine VrN.keep ?_ | refine DrawN.calm (by decide +kernel) ?_ | refine Nd.mk (by decide +kernel) ?_ | refine Nd.mk (by omega) ?_ | (refine Nd.mk ?_ ?_; focus ((repeat' (first | exact trivial | exact wkE_refl _ | refine And.intro ?_ ?_)); done)) | refine RdN.intro _ rfl (by rfl) ?_); (conv => whnf))))
    refine brd_dec (fun h2 => ?_) (fun h2 => ?_)
    · obtain ⟨x, hx, hr, hok2⟩ := hi.step h1 (by omega)
      ((conv => whnf); (repeat ((first | refine BoxN.own ?_ | refine VrN.norm (wrap_i64 (by omega)) ?_ | refine VrN.keep ?_ | refine DrawN.calm (by decide +kernel) ?_ | refine Nd.mk (by decide +kernel) ?_ | refine Nd.mk (by omega) ?_ | (refine Nd.mk ?_ ?_; focus ((repeat' (first | exact trivial | exact wkE_refl _ | refine And.intro ?_ ?_)); done)) | refine RdN.intro _ rfl (by rfl) ?_); (conv => whnf))))
      refine ReadW.sl_l st rfl (by kernel_rfl) rfl rfl ⟨rfl, hst⟩ ?_
      ((conv => whnf); (repeat ((first | refine BoxN.own ?_ | refine VrN.norm (wrap_i64 (by omega)) ?_ | refine VrN.keep ?_ | refine DrawN.calm (by decide +kernel) ?_ | refine Nd.mk (by decide +kernel) ?_ | refine Nd.mk (by omega) ?_ | (refine Nd.mk ?_ ?_; focus ((repeat' (first | exact trivial | exact wkE_refl _ | refine And.intro ?_ ?_)); done)) | refine RdN.intro _ rfl (by rfl) ?_); (conv => whnf)))); refine call1 (Index_c (s.drop st) old (by simp; omega) _ fun w hw => hw.1) ?_
      rw [hx]
      ((conv => whnf); (repeat ((first | refine BoxN.own ?_ | refine VrN.norm (wrap_i64 (by omega)) ?_ | refine VrN.keep ?_ | refine DrawN.calm (by decide +kernel) ?_ | refine Nd.mk (by decide +kernel) ?_ | refine Nd.mk (by omega) ?_ | (refine Nd.mk ?_ ?_; focus ((repeat' (first | exact trivial | exact wkE_refl _ | refine And.intro ?_ ?_)); done)) | refine RdN.intro _ rfl (by rfl) ?_); (conv => whnf))))
      refine ReadW.sl_lh st (st + x) rfl (by kernel_rfl) rfl rfl rfl ⟨rfl, by omega, by omega, by omega⟩ ?_
      ((conv => whnf); (repeat ((first | refine BoxN.own ?_ | refine VrN.norm (wrap_i64 (by omega)) ?_ | refine VrN.keep ?_ | refine DrawN.calm (by decide +kernel) ?_ | refine Nd.mk (by decide +kernel) ?_ | refine Nd.mk (by omega) ?_ | (refine Nd.mk ?_ ?_; focus ((repeat' (first | exact trivial | exact wkE_refl _ | refine And.intro ?_ ?_)); done)) | refine RdN.intro _ rfl (by rfl) ?_); (conv => whnf))))
      refine callG (WriteString_c true out ((s.take (st + x)).drop st) b hok (by simp; omega)) [1, 2] rfl ⟨rfl, rfl, trivial⟩ rfl fun b1 hb1 => ?_
      ((conv => whnf); (repeat ((first | refine BoxN.own ?_ | refine VrN.norm (wrap_i64 (by omega)) ?_ | refine VrN.keep ?_ | refine DrawN.calm (by decide +kernel) ?_ | refine Nd.mk (by decide +kernel) ?_ | refine Nd.mk (by omega) ?_ | (refine Nd.mk ?_ ?_; focus ((repeat' (first | exact trivial | exact wkE_refl _ | refine And.intro ?_ ?_)); done)) | refine RdN.intro _ rfl (by rfl) ?_); (conv => whnf))))
      refine callG (WriteString_c true (out ++ (s.take (st + x)).drop st) new b1 hb1 (by simp; omega)) [1, 2] rfl ⟨rfl, rfl, trivial⟩ rfl fun b2 hb2 => ?_
      ((conv => whnf); (repeat ((first | refine BoxN.own ?_ | refine VrN.norm (wrap_i64 (by omega)) ?_ | refine VrN.keep ?_ | refine DrawN.calm (by decide +kernel) ?_ | refine Nd.mk (by decide +kernel) ?_ | refine Nd.mk (by omega) ?_ | (refine Nd.mk ?_ ?_; focus ((repeat' (first | exact trivial | exact wkE_refl _ | refine And.intro ?_ ?_)); done)) | refine RdN.intro _ rfl (by rfl) ?_); (conv => whnf))))
      refine ⟨⟨i + 1, out ++ (s.take (st + x)).drop st ++ new, st + x + old.length, b2⟩, ⟨hok2, hb2⟩, by show Lib.count s old - (i + 1) < Lib.count s old - i; omega, ?_, ?_⟩
      · (repeat' (first | exact trivial | refine And.intro (by with_reducible rfl) ?_ | (with_reducible exact wkC_refl _) | (with_reducible exact wkCs_refl _) | refine And.intro ?_ ?_))
        all_goals exact av_int (by simp (disch := omega) only [bs_size, wrap_i64]; omega)
      · exact wkH_of_eq (by simp [bC, rnE, rnC, rnCs, rnI])
    · have hik : i = Lib.count s old := by omega
      subst hik
      have he := hi.eq
      rw [Nat.sub_self] at he
      ((conv => whnf); (repeat ((first | refine BoxN.own ?_ | refine VrN.norm (wrap_i64 (by omega)) ?_ | refine VrN.keep ?_ | refine DrawN.calm (by decide +kernel) ?_ | refine Nd.mk (by decide +kernel) ?_ | refine Nd.mk (by omega) ?_ | (refine Nd.mk ?_ ?_; focus ((repeat' (first | exact trivial | exact wkE_refl _ | refine And.intro ?_ ?_)); done)) | refine RdN.intro _ rfl (by rfl) ?_); (conv => whnf))))
      refine ReadW.sl_l st rfl (by kernel_rfl) rfl rfl ⟨rfl, hst⟩ ?_
      ((conv => whnf); (repeat ((first | refine BoxN.own ?_ | refine VrN.norm (wrap_i64 (by omega)) ?_ | refine VrN.keep ?_ | refine DrawN.calm (by decide +kernel) ?_ | refine Nd.mk (by decide +kernel) ?_ | refine Nd.mk (by omega) ?_ | (refine Nd.mk ?_ ?_; focus ((repeat' (first | exact trivial | exact wkE_refl _ | refine And.intro ?_ ?_)); done)) | refine RdN.intro _ rfl (by rfl) ?_); (conv => whnf))))
      refine callG (WriteString_c true out (s.drop st) b hok (by simp; omega)) [1, 2] rfl ⟨rfl, rfl, trivial⟩ rfl fun b1 hb1 => ?_
      ((conv => whnf); (repeat ((first | refine BoxN.own ?_ | refine VrN.norm (wrap_i64 (by omega)) ?_ | refine VrN.keep ?_ | refine DrawN.calm (by decide +kernel) ?_ | refine Nd.mk (by decide +kernel) ?_ | refine Nd.mk (by omega) ?_ | (refine Nd.mk ?_ ?_; focus ((repeat' (first | exact trivial | exact wkE_refl _ | refine And.intro ?_ ?_)); done)) | refine RdN.intro _ rfl (by rfl) ?_); (conv => whnf))))
      refine callG (BString_c true (out ++ s.drop st) b1 hb1) [1, 2] rfl ⟨rfl, rfl, trivial⟩ rfl fun _ _ => ?_
      ((conv => whnf); (repeat ((first | refine BoxN.own ?_ | refine VrN.norm (wrap_i64 (by omega)) ?_ | refine VrN.keep ?_ | refine DrawN.calm (by decide +kernel) ?_ | refine Nd.mk (by decide +kernel) ?_ | refine Nd.mk (by omega) ?_ | (refine Nd.mk ?_ ?_; focus ((repeat' (first | exact trivial | exact wkE_refl _ | refine And.intro ?_ ?_)); done)) | refine RdN.intro _ rfl (by rfl) ?_); (conv => whnf))))
      rw [show out ++ s.drop st = rpl old new s from he]
end Go.Proofs.YtfcjgklghgpddaaGreatDoor

/-
  Closed facts of the program that every row asks.
-/
namespace Go.Proofs.YtfcjgklghgpddaaGreatDoor
open Go.ChangeShapes Go.WideShapes Go.ChangeAt Go.RowKit Go.AX
set_option maxRecDepth 100000
theorem own : ownKnob Tryz.prog.godebug = none := by kernel_rfl
theorem laidOut : laidOutB Tryz.prog = true := by kernel_rfl
theorem max_of {W : World} (h : W.ShapedOpen Tryz.prog) : MaxF W :=
  cell_of_shapedOpen_int (g := 0) (t := 3) (zero := #[.int .i64 0]) h (of_decide_eq_true (by kernel_rfl)) (by kernel_rfl) (by kernel_rfl) (by kernel_rfl) (by kernel_rfl) (by kernel_rfl)
theorem max_imm {W : World} (h : MaxF W) : Imm (fun b => b < W.heap.size) W MaxF := by
  refine ⟨h, fun w' hw => ?_⟩
  obtain ⟨m, hm⟩ := h
  exact ⟨m, cell?_keep hm (hw _ (cell?_lt hm))⟩
end Go.Proofs.YtfcjgklghgpddaaGreatDoor

/-
  AX, twenty-eighth text: a struct of one's own at a known address: one cell is set (as the model's own functions without body set it).
-/
namespace Go.AX

theorem app1_arr {ρ : List Loc} {S : Nat → Prop} {w : World} {i : Nat} {T : TypeId} {m b : Nat} {xs : List Value} (h : EntOk ρ S w i (.app T m xs (some ⟨b, 0, none⟩) 1 1)) : (∃ fr, w.heap[b]? = some (.cells xs.toArray T fr) ∧ NoFr fr xs.length) ∧ xs.length = m := by
  rcases h with ⟨h0, _⟩ | ⟨b', hb', arr, fr, ⟨hb, hfr⟩, hxl, _, _, hasz, htk⟩
  · cases h0
  · cases hb'
    rw [Nat.one_mul] at hxl hasz htk
    have e : arr.toList = xs := by rw [← htk, List.take_of_length_le (by simp [hasz])]
    refine ⟨⟨fr, ?_, ?_⟩, hxl⟩
    · rw [hb, ← e]
    · rw [← e]; simpa using hfr
theorem Sat.setApp1 {ρ : List Loc} {S : Nat → Prop} {H : List Ent} {w : World} {i : Nat} {T : TypeId} {m b : Nat} {xs : List Value} (hs : Sat ρ S H w) (hi : H[i]? = some (.app T m xs (some ⟨b, 0, none⟩) 1 1)) (j : Nat) (v : Value) {w0 : World} (hh : w0.heap = w.heap) (ho : w0.os = w.os) (ht : w0.tape = w.tape) (hu : w0.output = w.output) :
    Sat ρ S (H.set i (.app T m (xs.set j v) (some ⟨b, 0, none⟩) 1 1)) (w0.setCell ⟨b, j, none⟩ v) ∧ Ev ρ S H w ρ S (H.set i (.app T m (xs.set j v) (some ⟨b, 0, none⟩) 1 1)) (w0.setCell ⟨b, j, none⟩ v) := by
  obtain ⟨⟨fr, hb, hfr⟩, hm⟩ := app1_arr (hs.ent i _ hi)
  have hbl : b < w.heap.size := (Array.getElem?_eq_some_iff.1 hb).1
  have hsame : (w0.setCell ⟨b, j, none⟩ v).heap[b]? = some (.cells (xs.toArray.setIfInBounds j v) T fr) := by
    simp [World.setCell, Array.getElem?_modify, hh, hb]
  refine hs.setG (e' := .app T m (xs.set j v) (some ⟨b, 0, none⟩) 1 1) (c := b) hi rfl (by simp [World.setCell, hh]) (fun k _ hne => by simp [World.setCell, Array.getElem?_modify, Ne.symm hne, hh]) ho ht hu (fun c hc => .inl (Option.some.inj hc).symm) (.inr ⟨b, rfl, _, fr, ⟨hsame, by simpa using hfr⟩, by simp [hm], Nat.le_refl _, by simp only [maxLen]; omega, by simp [hm], ?_⟩)
  simp only [Nat.one_mul]
  rw [List.take_of_length_le (by simp [hm])]
  simp
theorem app1_cell {ρ : List Loc} {S : Nat → Prop} {w : World} {i : Nat} {T : TypeId} {m b : Nat} {xs : List Value} (h : EntOk ρ S w i (.app T m xs (some ⟨b, 0, none⟩) 1 1)) {j : Nat} {v : Value} (hv : xs[j]? = some v) : w.cell? ⟨b, j, none⟩ = some v ∧ w.frozen? ⟨b, j, none⟩ = false := by
  obtain ⟨⟨fr, hb, hfr⟩, _⟩ := app1_arr h
  have hj := (List.getElem?_eq_some_iff.1 hv).1
  constructor
  · simp [World.cell?, hb, hv]
  · obtain ⟨lo, hi⟩ := fr
    simp only [World.frozen?, hb, Bool.and_eq_false_iff, decide_eq_false_iff_not]
    rcases hfr with h | h
    · cases h; right; omega
    · left; simp only at h; omega
/-- sync.Once.Do of a function by its contract, not yet done: cells 0 and 1 of the struct are the Once's word and its lock's state. -/
theorem SpecH.once {P : Program} {fd fb : FuncId} {p : Value} {H : List Ent} {K : Out → List Ent → Prop} (ok : CallOk P fd) (i : Nat) {T : TypeId} {m b : Nat} {xs : List Value} (hi : nthE H i = some (.app T m xs (some ⟨b, 0, none⟩) 1 1)) (hx0 : xs[0]? = some (.int .u32 0)) (hx1 : xs[1]? = some (.int .i32 0))
    (raw : ∀ (Q : World → Prop) (w : World), w.cell? ⟨b, 0, none⟩ = some (.int .u32 0) → w.cell? ⟨b, 1, none⟩ = some (.int .i32 0) → w.frozen? ⟨b, 1, none⟩ = false →
      Calls P fb #[p] (w.setCell ⟨b, 1, none⟩ (.int .i32 1)) (fun e w2 => e = .returned (.tuple #[]) ∧ Q w2) →
      (∀ w2, Q w2 → (∃ x, w2.cell? ⟨b, 0, none⟩ = some x) ∧ w2.cell? ⟨b, 1, none⟩ = some (.int .i32 1) ∧ w2.frozen? ⟨b, 0, none⟩ = false ∧ w2.frozen? ⟨b, 1, none⟩ = false) →
      Calls P fd #[.pointer (some ⟨b, 0, none⟩), .func (.func fb) #[p] #[]] w fun e w' => e = .returned (.tuple #[]) ∧ ∃ w2, Q w2 ∧ w' = (w2.drew.setCell ⟨b, 0, none⟩ (.int .u32 1)).setCell ⟨b, 1, none⟩ (.int .i32 0))
    (hb : SpecH P fb (pvs [p]) (H.set i (.app T m (xs.set 1 (.int .i32 1)) (some ⟨b, 0, none⟩) 1 1)) fun out H2 => out = .val (.c (.v (.tuple #[]))) ∧ ∃ m2 ys, H2[i]? = some (.app T m2 ys (some ⟨b, 0, none⟩) 1 1) ∧ (∃ x, ys[0]? = some x) ∧ ys[1]? = some (.int .i32 1) ∧
      K (.val (.c (.v (.tuple #[])))) (H2.set i (.app T m2 ((ys.set 0 (.int .u32 1)).set 1 (.int .i32 0)) (some ⟨b, 0, none⟩) 1 1))) :
    SpecH P fd (pvs [.pointer (some ⟨b, 0, none⟩), .func (.func fb) #[p] #[]]) H K := by
  rw [nthE_eq] at hi
  refine ⟨ok, fun ρ S w vs hs hr => ?_⟩
  obtain rfl := RelS_pvs hr
  obtain ⟨c0, _⟩ := app1_cell (hs.ent i _ hi) hx0
  obtain ⟨c1, z1⟩ := app1_cell (hs.ent i _ hi) hx1
  obtain ⟨hs1, hev1⟩ := hs.setApp1 hi 1 (.int .i32 1) (w0 := w) rfl rfl rfl rfl
  have hrun := hb.run ρ S _ [p] hs1 (pvs_rel ρ [p])
  refine (raw (fun w2 => ∃ ρ' S' H2, Sat ρ' S' H2 w2 ∧ Ev ρ S H w ρ' S' H2 w2 ∧ ∃ m2 ys, H2[i]? = some (.app T m2 ys (some ⟨b, 0, none⟩) 1 1) ∧ (∃ x, ys[0]? = some x) ∧ ys[1]? = some (.int .i32 1) ∧
      K (.val (.c (.v (.tuple #[])))) (H2.set i (.app T m2 ((ys.set 0 (.int .u32 1)).set 1 (.int .i32 0)) (some ⟨b, 0, none⟩) 1 1))) w c0 c1 z1 ?_ ?_).mono ?_
  · refine hrun.mono fun e w2 ⟨ρ', S', H2, out, hs2, hev2, hout, hx, hrest⟩ => ?_
    subst hx
    obtain ⟨v, rfl, hv⟩ := hout
    have : v = .tuple #[] := hv
    subst this
    exact ⟨rfl, ρ', S', H2, hs2, hev1.trans hev2, hrest⟩
  · rintro w2 ⟨ρ', S', H2, hs2, _, m2, ys, h2, ⟨x, hy0⟩, hy1, _⟩
    obtain ⟨d0, y0⟩ := app1_cell (hs2.ent i _ h2) hy0
    obtain ⟨d1, y1⟩ := app1_cell (hs2.ent i _ h2) hy1
    exact ⟨⟨x, d0⟩, d1, y0, y1⟩
  · rintro e w' ⟨rfl, w2, ⟨ρ', S', H2, hs2, hev2, m2, ys, h2, _, _, hK⟩, rfl⟩
    obtain ⟨hs3, hev3⟩ := hs2.setApp1 h2 0 (.int .u32 1) (w0 := w2.drew) rfl rfl rfl rfl
    have h3 : (H2.set i (.app T m2 (ys.set 0 (.int .u32 1)) (some ⟨b, 0, none⟩) 1 1))[i]? = some (.app T m2 (ys.set 0 (.int .u32 1)) (some ⟨b, 0, none⟩) 1 1) := by
      rw [List.getElem?_set_self (List.getElem?_eq_some_iff.1 h2).1]
    obtain ⟨hs4, hev4⟩ := hs3.setApp1 h3 1 (.int .i32 0) (w0 := w2.drew.setCell ⟨b, 0, none⟩ (.int .u32 1)) rfl rfl rfl rfl
    rw [List.set_set] at hs4 hev4
    exact ⟨ρ', S', _, .val (.c (.v (.tuple #[]))), hs4, (hev2.trans hev3).trans hev4, ⟨.tuple #[], rfl, rfl⟩, hK⟩
end Go.AX

/-
  AX, twenty-ninth text: the rest of a slice.
-/
namespace Go.AX
theorem ReadW.slc_l {P : Program} {o : Oper} {s : List AV} {H : List Ent} {K : AV → Prop} {t e : TypeId} {x y : Operand} {b n cap : Nat} {k : IntKind} {i : Int} (j : Nat) (ho : o.op = .slice t x (some y) none none) (hu : P.underlying t = some (.slice e)) (he : byteB P e = true)
    (hx : opv s x = .c (.v (.slice (some ⟨b, 0, none⟩) n cap))) (hy : opv s y = .c (.v (.int k i))) (hj : i = (j : Int) ∧ j ≤ n ∧ n ≤ cap ∧ j < cap) (h : K (.c (.v (.slice (some ⟨b, j, none⟩) (n - j) (cap - j))))) : ReadW P o s H K := by
  obtain ⟨inf, hi, _, h1, _⟩ := byteB_spec he
  obtain ⟨rfl, hjn, hnc, hjc⟩ := hj
  refine ReadW.val _ (fun cs b => by rw [ho]; simp) (by rw [ho]; simp [Op.operands, allPlain, hx, hy]) (fun w _ => ?_) h
  have e1 := plainEv_v hx
  have e2 := plainEv_v hy
  have : (Instr.sliceAt t (.slice (some ⟨b, 0, none⟩) n cap) (some (.int k (j : Int))) none none).run P w = .ok (.slice (some ⟨b, j, none⟩) (n - j) (cap - j)) w := by
    simp [Instr.sliceAt, Instr.slice, run_underlying hu, Instr.sliceBounds, Instr.sliceBound, asIntOf, hjn, sizeOf, typeInfo, hi, h1, add_lit0]
    omega
  refine run_op_slice ho ?_
  rw [e1]
  simpa [e2] using this
theorem setCells_heap (b : Nat) (T : TypeId) (fr : Nat × Nat) : ∀ (ys : List Value) (q : Nat) (w : World) (arr : Array Value), w.heap[b]? = some (.cells arr T fr) → q + ys.length ≤ arr.size →
    (w.setCells b q ys).heap[b]? = some (.cells (arr.toList.take q ++ ys ++ arr.toList.drop (q + ys.length)).toArray T fr)
  | [], q, w, arr, h, _ => by simp [World.setCells, h]
  | v :: r, q, w, arr, h, hl => by
    simp only [List.length_cons] at hl
    rw [World.setCells, setCells_heap b T fr r (q + 1) (w.setCell ⟨b, q, none⟩ v) (arr.setIfInBounds q v) (by simp [World.setCell, Array.getElem?_modify, h]) (by simp; omega)]
    congr 3
    rw [Array.toList_setIfInBounds, List.drop_set_of_lt (by omega), List.take_set, List.length_cons, show q + 1 + r.length = q + (r.length + 1) by omega]
    have e : (arr.toList.take (q + 1)).set q v = arr.toList.take q ++ [v] := by
      rw [List.take_succ_eq_append_getElem (by simp; omega), List.set_append_right _ _ (by simp; omega)]
      simp [show min q arr.size = q by omega]
    rw [e]; simp
theorem setCells_rest (b : Nat) : ∀ (ys : List Value) (q : Nat) (w : World), (w.setCells b q ys).heap.size = w.heap.size ∧ (∀ k, k ≠ b → (w.setCells b q ys).heap[k]? = w.heap[k]?) ∧ (w.setCells b q ys).os = w.os ∧ (w.setCells b q ys).tape = w.tape ∧ (w.setCells b q ys).output = w.output
  | [], _, _ => ⟨rfl, fun _ _ => rfl, rfl, rfl, rfl⟩
  | v :: r, q, w => by
    obtain ⟨h1, h2, h3, h4, h5⟩ := setCells_rest b r (q + 1) (w.setCell ⟨b, q, none⟩ v)
    rw [World.setCells]
    exact ⟨h1.trans (by simp [World.setCell]), fun k hk => (h2 k hk).trans (by simp [World.setCell, Array.getElem?_modify, Ne.symm hk]), h3, h4, h5⟩
/-- copy of cells that are read into a part of an own row of bytes. -/
theorem EffW.copyIn {P : Program} {o : Oper} {s : List AV} {H : List Ent} {K : AV → List Ent → Prop} {args : Array Operand} {ts : Array TypeId} {T U e : TypeId} {x y : Operand} {b q dl dc n cap sl sc : Nat} {a : Addr} {xs ys : List Value} (i : Nat) (ho : o.op = .call { callee := .builtin .copy, args := args, argTypes := ts }) (ha : args.toList = [x, y]) (ht : ts.toList = [T, U])
    (hT : P.underlying T = some (.slice e)) (he : byteB P e = true) (hx : opv s x = .c (.v (.slice (some ⟨b, q, none⟩) dl dc))) (hy : opv s y = .c (.v (.slice (some a) sl sc))) (hi : nthE H i = some (.app e 1 xs (some ⟨b, 0, none⟩) n cap))
    (hF : ∀ w, Facts H w → SlAt (some a) sl ys w) (hone : ∀ v ∈ ys, v.oneCell' = true) (hle : sl ≤ dl) (hq : q + sl ≤ n)
    (next : setEK H i (.app e 1 (xs.take q ++ ys ++ xs.drop (q + sl)) (some ⟨b, 0, none⟩) n cap) fun H' => K (.c (.v (.int .i64 (sl : Int)))) H') : EffW P o s H K := by
  obtain ⟨inf, hinf, _, h1, _⟩ := byteB_spec he
  rw [nthE_eq] at hi
  obtain ⟨_, hk⟩ := setEK_spec next
  intro ρ S w ac hs hr
  have e1 : args = #[x, y] := by rw [← Array.toArray_toList (xs := args), ha]
  have e2 : ts = #[T, U] := by rw [← Array.toArray_toList (xs := ts), ht]
  subst e1; subst e2
  have hxr := opv_rel hr x
  have hyr := opv_rel hr y
  rw [hx] at hxr; rw [hy] at hyr
  have hxe : ac.eval x = .slice (some ⟨b, q, none⟩) dl dc := hxr
  have hye : ac.eval y = .slice (some a) sl sc := hyr
  obtain ⟨hyl, _, hyc⟩ := hF w hs.facts
  rcases hs.ent i _ hi with ⟨h0, _⟩ | ⟨b', hb', arr, fr, ⟨hb, hfr⟩, hxl, hnc, hcm, hasz, htk⟩
  · cases h0
  cases hb'
  rw [Nat.mul_one] at hxl hasz htk
  have hrun := run_copy_cells (P := P) w T U o.type e b q dl dc a sl sc ys hT (by simp [hinf, h1]) (by rw [hyl]; exact (Nat.min_eq_left hle).symm)
    (fun j v hv => by
      have hj : j < sl := by rw [← hyl]; exact (List.getElem?_eq_some_iff.1 hv).1
      exact (hyc j hj).trans hv)
    (fun j hj => by
      have : q + j < arr.size := by omega
      simp [World.cell?, hb, this])
    (fun j hj => by
      obtain ⟨lo, hi'⟩ := fr
      simp only [World.frozen?, hb, Bool.and_eq_false_iff, decide_eq_false_iff_not]
      rcases hfr with h | h
      · cases h; right; omega
      · left; simp only at h; omega) hone
  obtain ⟨r1, r2, r3, r4, r5⟩ := setCells_rest b ys q w
  have hheap := setCells_heap b e fr ys q w arr hb (by omega)
  rw [hyl] at hrun hheap
  have hrow : RowF e 1 n (xs.take q ++ ys ++ xs.drop (q + sl)) b cap (w.setCells b q ys) := by
    refine ⟨_, fr, ⟨hheap, by have e0 : (arr.toList.take q ++ ys ++ arr.toList.drop (q + sl)).toArray.size = arr.size := (by simp; omega); rw [e0]; exact hfr⟩, by simp; omega, hnc, hcm, by simp; omega, ?_⟩
    rw [Nat.mul_one, ← htk]
    apply List.ext_getElem?
    intro j
    simp only [List.getElem?_take, List.getElem?_append, List.getElem?_drop, List.length_append, List.length_take, Array.length_toList]
    by_cases j1 : j < q
    · simp [show min q arr.size = q by omega, show min q (min n arr.size) = q by omega, j1, show j < q + ys.length by omega, show j < n by omega]
    · by_cases j2 : j < q + ys.length
      · simp [show min q arr.size = q by omega, show min q (min n arr.size) = q by omega, j1, j2, show j < n by omega]
      · simp only [show min q arr.size = q by omega, show min q (min n arr.size) = q by omega, j1, j2, if_false]
        by_cases j3 : j < n
        · simp [j3, show q + sl + (j - (q + ys.length)) = j by omega]
        · simp [j3]; omega
  have hS := hs.setG (e' := .app e 1 (xs.take q ++ ys ++ xs.drop (q + sl)) (some ⟨b, 0, none⟩) n cap) hi rfl (Nat.le_of_eq r1.symm) (fun k _ hne => r2 k hne) r3 r4 r5 (fun c hc => .inl (Option.some.inj hc).symm) (.inr ⟨b, rfl, hrow⟩)
  refine ⟨_, _, hk, .value (goInt (sl : Int)), _, ρ, _, ?_, .inl rfl, hS.1, hS.2, rfl⟩
  unfold execOp
  simp only [ho, resolve, invoke, builtin, Sem.run_bind, Sem.run_pure, Result.andThen_ok, List.map_toArray, List.map_cons, List.map_nil, hxe, hye, hrun]
end Go.AX

/-
  AX, twenty-fifth text: rows of bytes that are made.
-/
namespace Go.AX

theorem made_bytes (n : Nat) : (madeCells #[Value.int .u8 0] n).toList = List.replicate n (.int .u8 0) := by
  apply List.ext_getElem?
  intro i
  rw [madeCells, Array.toList_map, List.getElem?_map, Array.toList_range]
  by_cases h : i < n
  · rw [List.getElem?_range h, List.getElem?_replicate, if_pos h]
    simp [Nat.mod_one]
  · rw [List.getElem?_eq_none (by simpa using h), List.getElem?_eq_none (by simpa using h)]
    rfl
/-- make([]byte, n) -/
theorem EffW.mkBytes {P : Program} {o : Oper} {s : List AV} {H : List Ent} {K : AV → List Ent → Prop} {t e : TypeId} {x y : Operand} (n : Nat) (ho : o.op = .makeSlice t x y) (ht : P.underlying t = some (.slice e)) (he : byteB P e = true)
    (hx : opv s x = .c (.v (.int .i64 (n : Int)))) (hy : opv s y = .c (.v (.int .i64 (n : Int)))) (hn : n ≤ 16000000)
    (next : ∀ b, K (.c (.v (.slice (some ⟨b, 0, none⟩) n n))) (H ++ [.app e 1 (List.replicate n (.int .u8 0)) (some ⟨b, 0, none⟩) n n])) : EffW P o s H K := by
  obtain ⟨inf, hi, hz, h1, h2⟩ := byteB_spec he
  intro ρ S w a hs hr
  have hxr := opv_rel hr x
  have hyr := opv_rel hr y
  rw [hx] at hxr; rw [hy] at hyr
  have hxe : a.eval x = .int .i64 (n : Int) := hxr
  have hye : a.eval y = .int .i64 (n : Int) := hyr
  have hrun := run_makeSlice (P := P) (w := w) t e inf (.int .u8 0) ht hi hz .i64 .i64 (n : Int) (n : Int) (by omega) (Int.le_refl _) (by rw [h1]; omega) (by rw [h2]; omega) (by omega)
  simp only [Int.toNat_natCast, h1, Nat.mul_one] at hrun
  have hrow : RowF e 1 n (List.replicate n (.int .u8 0)) w.heap.size n (w.alloc (.cells (madeCells #[Value.int .u8 0] n) e)) :=
    ⟨_, (0, 0), ⟨heap_alloc_new w _, .inl rfl⟩, by simp, Nat.le_refl _, by simp only [maxLen]; omega, by rw [size_madeCells, Nat.mul_one], by rw [made_bytes, Nat.mul_one, List.take_of_length_le (by simp)]⟩
  have hS := hs.newApp (w' := w.alloc (.cells (madeCells #[Value.int .u8 0] n) e)) rfl rfl rfl rfl hrow
  refine ⟨_, _, next w.heap.size, _, _, _, _, ?_, .inl rfl, hS.1, hS.2, rfl⟩
  unfold execOp
  simp only [ho, hxe, hye, Sem.run_bind, Sem.run_pure, hrun, Result.andThen_ok]
  rfl
end Go.AX

/-
  AX, thirtieth text: bytes of a string; own entries that nobody writes any more become facts.
-/
namespace Go.AX

theorem EffW.appTo {P : Program} {o : Oper} {s : List AV} {H : List Ent} {K : AV → List Ent → Prop} {Ty T : TypeId} {x y : Operand} {sz n cap b q i : Nat} {xs ys : List Value} {inf : TypeInfo} (zs : List Value) (sz' : Nat) (ho : o.op = .store Ty x y)
    (hx : opv s x = .c (.v (.pointer (some ⟨b, q, none⟩)))) (hi : nthE H i = some (.app T sz xs (some ⟨b, 0, none⟩) n cap)) (hy : avCells (opv s y) = some (vs ys)) (hone : oneCs (vs ys) = true) (hinf : P.info? Ty = some inf) (hlen : ys.length = inf.size)
    (hq : q + ys.length ≤ n * sz) (hz : xs.take q ++ ys ++ xs.drop (q + ys.length) = zs) (hs : sz = sz') (hk : setEK H i (.app T sz' zs (some ⟨b, 0, none⟩) n cap) fun H' => K (.c .any) H') : EffW P o s H K := by
  subst hz; subst hs
  exact EffW.app ho hx hi hy hone hinf hlen hq hk
theorem put_set {xs : List Value} {q : Nat} (v : Value) (h : q < xs.length) : xs.take q ++ [v] ++ xs.drop (q + [v].length) = xs.set q v := by
  rw [List.set_eq_take_append_cons_drop, if_pos h]
  simp
/-- The arguments in another spelling. -/
theorem SpecH.args {P : Program} {f : FuncId} {args args' : List AV} {H : List Ent} {K : Out → List Ent → Prop} (e : args = args') (h : SpecH P f args' H K) : SpecH P f args H K := e ▸ h
theorem plains_vs : ∀ xs : List Value, plains (vs xs) = some xs
  | [] => rfl
  | _ :: xs => by simp [vs, plains, plains_vs xs]
/-- string(b) of bytes of the call's own. -/
theorem ReadW.bytesOwn {P : Program} {o : Oper} {s : List AV} {H : List Ent} {K : AV → Prop} {src dst e : TypeId} {x : Operand} {i n : Nat} (l : List UInt8) (hn : l.length = n) (ho : o.op = .convert src dst x) (hs : P.underlying src = some (.slice e))
    (he : P.underlying e = some (.int .u8)) (hd : P.underlying dst = some .string) (hx : opv s x = .c (.sl i n)) (hi : nthE H i = some (.row e 1 n (vs (u8s l)))) (hk : K (.c (.v (.string (bs l))))) : ReadW P o s H K := by
  subst hn
  rw [nthE_eq] at hi
  refine ⟨.c (.v (.string (bs l))), hk, fun ρ S w ac hsat hr => ⟨.string (bs l), ?_, rfl⟩⟩
  obtain ⟨l', arr, hl, hb, h1, h2, h3, h4, hrel⟩ := hsat.ent i _ hi
  have hxr := opv_rel hr x
  rw [hx] at hxr
  obtain ⟨l2, hl2, hxe⟩ := hxr
  obtain rfl := Option.some.inj (hl2.symm.trans hl)
  have hrun := run_convert_bytes_back w src dst e ⟨l2.b, 0, none⟩ l2.cap l hs he hd (fun j hj => by
    have e0 := vs_only hrel
    rw [add_lit0, cell_of_row w l2.b j arr e (0, 0) hb]
    have : (arr.toList.take (l.length * 1))[j]? = (u8s l)[j]? := by rw [e0]
    rw [List.getElem?_take, if_pos (by omega)] at this
    rw [← Array.getElem?_toList, this]
    simp [u8s, hj])
  unfold execOp
  simp only [ho, hxe, Sem.run_bind, hrun, Result.andThen_ok, Sem.run_pure]
  rfl
/-- make([]T, 0, n) -/
theorem EffW.mkEmpty {P : Program} {o : Oper} {s : List AV} {H : List Ent} {K : AV → List Ent → Prop} {t e : TypeId} {x y : Operand} {inf : TypeInfo} {z : Value} (n : Nat) (ho : o.op = .makeSlice t x y) (ht : P.underlying t = some (.slice e)) (hi : P.info? e = some inf) (hz : inf.zero = some z)
    (hx : opv s x = .c (.v (.int .i64 0))) (hy : opv s y = .c (.v (.int .i64 (n : Int)))) (hn : n ≤ 1000000 ∧ inf.size ≤ 16 ∧ inf.bytes ≤ 1000)
    (next : ∀ b, K (.c (.v (.slice (some ⟨b, 0, none⟩) 0 n))) (H ++ [.app e inf.size [] (some ⟨b, 0, none⟩) 0 n])) : EffW P o s H K := by
  intro ρ S w a hs hr
  have hxr := opv_rel hr x
  have hyr := opv_rel hr y
  rw [hx] at hxr; rw [hy] at hyr
  have hxe : a.eval x = .int .i64 0 := hxr
  have hye : a.eval y = .int .i64 (n : Int) := hyr
  have hm1 : n * inf.size ≤ n * 16 := Nat.mul_le_mul_left _ hn.2.1
  have hm2 : inf.bytes * n ≤ 1000 * n := Nat.mul_le_mul_right _ hn.2.2
  have hrun := run_makeSlice (P := P) (w := w) t e inf z ht hi hz .i64 .i64 0 (n : Int) (Int.le_refl _) (by omega) (by rw [Int.toNat_natCast]; omega) (by rw [← Int.natCast_mul]; omega) (by omega)
  simp only [Int.toNat_natCast] at hrun
  have hrow : RowF e inf.size 0 [] w.heap.size n (w.alloc (.cells (madeCells z.cells (n * inf.size)) e)) :=
    ⟨_, (0, 0), ⟨heap_alloc_new w _, .inl rfl⟩, by simp, Nat.zero_le _, by simp only [maxLen]; omega, by rw [size_madeCells], by simp⟩
  have hS := hs.newApp (w' := w.alloc (.cells (madeCells z.cells (n * inf.size)) e)) rfl rfl rfl rfl hrow
  refine ⟨_, _, next w.heap.size, _, _, _, _, ?_, .inl rfl, hS.1, hS.2, rfl⟩
  unfold execOp
  simp only [ho, hxe, hye, Sem.run_bind, Sem.run_pure, hrun, Result.andThen_ok]
  rfl
/-- []byte(s) -/
theorem EffW.bytesOf {P : Program} {o : Oper} {s : List AV} {H : List Ent} {K : AV → List Ent → Prop} {src dst e : TypeId} {x : Operand} (l : List UInt8) (ho : o.op = .convert src dst x) (hs : P.underlying src = some .string) (hd : P.underlying dst = some (.slice e)) (he : P.underlying e = some (.int .u8))
    (hx : opv s x = .c (.v (.string (bs l)))) (hl : l.length ≤ 140737488355328) (next : ∀ b cap : Nat, l.length ≤ cap → cap ≤ maxLen → K (.c (.v (.slice (some ⟨b, 0, none⟩) l.length cap))) (H ++ [.app e 1 (u8s l) (some ⟨b, 0, none⟩) l.length cap])) : EffW P o s H K := by
  intro ρ S w ac hsat hr
  have hxr := opv_rel hr x
  rw [hx] at hxr
  have hxe : ac.eval x = .string (bs l) := hxr
  have hrun := run_bytes_of_string (P := P) w src dst e (bs l) hs hd he
  rw [bs_size] at hrun
  have hge := grownCap_ge w l.length 0 e
  have hgm := grownCap_le_maxLen w l.length 0 e (by simp only [maxLen]; omega)
  generalize grownCap w l.length 0 e = cap at hrun hge hgm
  have hsz : (bytesRow (bs l) cap).size = cap := by
    have e1 : (bs l).data.size = l.length := by simp [bs]
    simp only [bytesRow, Array.size_append, Array.size_map, Array.size_replicate, bs_size, e1]
    omega
  have hrow : RowF e 1 l.length (u8s l) w.heap.size cap (w.drew.alloc (.cells (bytesRow (bs l) cap) e ((bytesRow (bs l) cap).size, (bytesRow (bs l) cap).size + 1))) := by
    refine ⟨_, _, ⟨heap_alloc_new w.drew _, .inr (Nat.le_refl _)⟩, by simp [u8s_len], hge, hgm, by rw [hsz, Nat.mul_one], ?_⟩
    rw [Nat.mul_one]
    unfold bytesRow
    rw [Array.toList_append, List.take_append_of_le_length (by simp [bs]), List.take_of_length_le (by simp [bs])]
    simp [bs, u8s]
  have hS := hsat.newApp (w' := w.drew.alloc (.cells (bytesRow (bs l) cap) e ((bytesRow (bs l) cap).size, (bytesRow (bs l) cap).size + 1))) rfl rfl rfl rfl hrow
  refine ⟨_, _, next w.heap.size cap hge hgm, _, _, _, _, ?_, .inl rfl, hS.1, hS.2, rfl⟩
  unfold execOp
  simp only [ho, hxe, Sem.run_bind, hrun, Result.andThen_ok, Sem.run_pure]

/-- Own entries that nobody writes any more: what they say becomes facts. -/
theorem Sat.seal {ρ : List Loc} {S : Nat → Prop} {H : List Ent} {w : World} (h : Sat ρ S H w) {G : List Ent} (hl : G.length ≤ H.length) (hG : ∀ e ∈ G, e = .dead ∨ ∃ Γ, e = .fact Γ ∧ ∀ w, Facts H w → Γ w) :
    Sat (ρ.take G.length) (fun b => S b ∨ appB H b) G w ∧ ∀ ρ' b, ¬ mb ρ' G b := by
  have hno : ∀ (ρ' : List Loc) (i : Nat) (e : Ent), G[i]? = some e → entB ρ' i e = none := fun ρ' i e he => by
    rcases hG e (List.mem_of_getElem? he) with rfl | ⟨Γ, rfl, _⟩ <;> rfl
  have hmb : ∀ ρ' b, ¬ mb ρ' G b := fun ρ' b ⟨i, e, he, hb⟩ => by rw [hno ρ' i e he] at hb; cases hb
  refine ⟨⟨by rw [List.length_take, h.len]; omega, fun i e he => ?_, fun i j e f b he _ hb _ => ?_, fun b hb => absurd hb (hmb _ b), fun b hb => ?_⟩, hmb⟩
  · rcases hG e (List.mem_of_getElem? he) with rfl | ⟨Γ, rfl, hΓ⟩
    · trivial
    · exact h.imm.mono hΓ
  · rw [hno _ i e he] at hb; cases hb
  · rcases hb with hb | hb
    · exact h.low b hb
    · obtain ⟨i, e, he, heb⟩ := appB_mb (ρ := ρ) hb
      exact h.blk_lt he heb
theorem SpecH.seal {P : Program} {f : FuncId} {args : List AV} {H : List Ent} {ι : Type} {inv : ι → Prop} {val : ι → Value} {G : ι → List Ent} (hl : ∀ i, inv i → H.length ≤ (G i).length)
    (h : SpecH P f args H fun out H' => ∃ i, inv i ∧ out = .val (.c (.v (val i))) ∧ (G i).length ≤ H'.length ∧ ∀ e ∈ G i, e = .dead ∨ ∃ Γ, e = .fact Γ ∧ ∀ w, Facts H' w → Γ w) : SpecH P f args H (RetG inv val G) := by
  refine ⟨h.ok, fun ρ S w vs hs hr => (h.run ρ S w vs hs hr).mono fun e w' ⟨ρ', S', H', out, hs', hev, hout, i, hi, hx, hln, hG⟩ => ?_⟩
  subst hx
  obtain ⟨h1, h2⟩ := hs'.seal hln hG
  refine ⟨ρ'.take (G i).length, _, G i, .val (.c (.v (val i))), h1, ⟨?_, hev.os, hev.tape, hev.output, hev.size, hev.keep, fun b hb => ?_, fun b hb => absurd hb (h2 _ b)⟩, hout, i, hi, rfl, rfl⟩
  · obtain ⟨t, ht⟩ := hev.pre
    refine ⟨t.take ((G i).length - ρ.length), ?_⟩
    rw [ht, List.take_append, List.take_of_length_le (by rw [hs.len]; exact hl i hi)]
  · rcases hb with hb | hb
    · exact hev.imm b hb
    · rcases hev.own b (appB_mb (ρ := ρ') hb) with h3 | h3
      · exact .inr (.inl h3)
      · exact .inr (.inr h3)
end Go.AX

/-
  Contract: strings.NewReplacer: a struct at a known address that holds the texts.
-/
namespace Go.Proofs.YtfcjgklghgpddaaGreatDoor
open Go.AX Go.RowKit
set_option maxRecDepth 20000

/-- The cells of a Replacer: the Once's word, its lock's state and sema, what replaces, the texts. -/
def replC (once st : Int) (r : Value) (a : Option Addr) (n cap : Nat) : List Value := [.int .u32 once, .int .i32 st, .int .u32 0, r, .slice a n cap]
theorem NewReplacer_c (b0 : Nat) (xs : List Value) (cap : Nat) (hl : xs.length ≤ 1000) (he : xs.length % 2 = 0) (h0 : xs ≠ []) (h1 : ∀ u ∈ xs, oneV u = true) : SpecH Tryz.prog 19 (pvs [.slice (some ⟨b0, 0, none⟩) xs.length cap]) [.fz 9 1 xs.length xs b0 cap]
    (RetG (fun _ : Nat × Nat × Nat => True) (fun i => .pointer (some ⟨i.1, 0, none⟩)) fun i => [.fz 9 1 xs.length xs b0 cap, .app 9 1 xs (some ⟨i.2.1, 0, none⟩) xs.length i.2.2, .app 82 5 (replC 0 0 .nilIface (some ⟨i.2.1, 0, none⟩) xs.length i.2.2) (some ⟨i.1, 0, none⟩) 1 1]) := by
  have hx : 1 ≤ xs.length := by
    cases xs with
    | nil => exact absurd rfl h0
    | cons _ _ => simp
  refine ownC hm Tryz.func19 (by kernel_rfl) rfl rfl (fun _ _ => ⟨trivial, trivial, trivial, trivial⟩) (fun _ _ => by simp) ?_
  ((conv => whnf); (repeat ((first | refine BoxN.own ?_ | refine VrN.norm (wrap_i64 (by omega)) ?_ | refine VrN.keep ?_ | refine DrawN.calm (by decide +kernel) ?_ | refine Nd.mk (by decide +kernel) ?_ | refine Nd.mk (by omega) ?_ | (refine Nd.mk ?_ ?_; focus ((repeat' (first | exact trivial | exact wkE_refl _ | refine And.intro ?_ ?_)); done)) | refine RdN.intro _ rfl (by rfl) ?_); (conv => whnf))))
  refine brdF (by have : ((xs.length : Int).tmod 2) = 0 := by rw [Int.tmod_eq_emod_of_nonneg (by omega)]; omega
                  simp [this]) ?_
  ((conv => whnf); (repeat ((first | refine BoxN.own ?_ | refine VrN.norm (wrap_i64 (by omega)) ?_ | refine VrN.keep ?_ | refine DrawN.calm (by decide +kernel) ?_ | refine Nd.mk (by decide +kernel) ?_ | refine Nd.mk (by omega) ?_ | (refine Nd.mk ?_ ?_; focus ((repeat' (first | exact trivial | exact wkE_refl _ | refine And.intro ?_ ?_)); done)) | refine RdN.intro _ rfl (by rfl) ?_); (conv => whnf))))
  refine brdF (by cases hq : Nat.beq xs.length 0 with
                  | false => rfl
                  | true => have := Nat.eq_of_beq_eq_true hq; omega) ?_
  refine Nd.mk rfl ?_
  refine ApN.intro xs (Nat.mul_one _).symm h1 (fun w hw j v hv => hw.1.sl.cell hv) ?_
  (conv => whnf)
  refine AppN.new xs ⟨rfl, rfl, rfl⟩ (plains_vs xs) ⟨hx, ⟨by show (0 + xs.length) * 16 ≤ _; omega, by omega⟩, by show 1 ≠ 0; omega⟩ fun c k hk hm => ?_
  (conv => whnf)
  refine BoxN.known _ rfl fun b => ?_
  (conv => whnf)
  exact ⟨(b, c, k), trivial, rfl, by (repeat' (first | exact trivial | exact wkE_refl _ | refine And.intro ?_ ?_))⟩
end Go.Proofs.YtfcjgklghgpddaaGreatDoor

/-
  Contract: (*strings.byteStringReplacer).Replace: each byte replaced by what the table holds.
-/
namespace Go.Proofs.YtfcjgklghgpddaaGreatDoor
open Go.AX Go.RowKit
set_option maxRecDepth 20000

/-- The table's cells. -/
structure Tbl where
  b : Nat
  cells : List Value
  ta : Option Addr
  tcap : Nat
/-- What a table says: the bytes that are replaced, each by its text. -/
structure TblOk (f : UInt8 → List UInt8) (olds : List UInt8) (d : Tbl) : Prop where
  len : d.cells.length = 257
  last : d.cells[256]? = some (.slice d.ta olds.length d.tcap)
  tas : d.ta.isSome = true
  cell : ∀ c : UInt8, (c ∉ olds ∧ f c = [c] ∧ d.cells[c.toNat]? = some (.slice none 0 0)) ∨ (c ∈ olds ∧ ∃ a cap, d.cells[c.toNat]? = some (.slice (some a) (f c).length cap))
  nodup : olds.Nodup
  small : ∀ c, 1 ≤ (f c).length ∧ (f c).length ≤ 6
  few : olds.length ≤ 16
def TblF (f : UInt8 → List UInt8) (olds : List UInt8) (d : Tbl) (w : World) : Prop :=
  SlAt (some ⟨d.b, 0, none⟩) 257 d.cells w ∧ SlAt d.ta olds.length (olds.map fun c => .string (bs [c])) w ∧ ∀ c : UInt8, ∀ a cap, d.cells[c.toNat]? = some (.slice (some a) (f c).length cap) → SlAt (some a) (f c).length (u8s (f c)) w
/-- What the replaced bytes add. -/
def gain (f : UInt8 → List UInt8) (s : List UInt8) : List UInt8 → Nat
  | [] => 0
  | c :: l => s.count c * ((f c).length - 1) + gain f s l
theorem gain_snoc (f : UInt8 → List UInt8) (s : List UInt8) (c : UInt8) : ∀ l, gain f s (l ++ [c]) = gain f s l + s.count c * ((f c).length - 1)
  | [] => by simp [gain]
  | x :: l => by simp only [List.cons_append, gain, gain_snoc f s c l]; omega
theorem gain_take (f : UInt8 → List UInt8) (s : List UInt8) : ∀ (i : Nat) (l : List UInt8), gain f s (l.take i) ≤ gain f s l
  | _, [] => by simp
  | 0, _ :: _ => by simp [gain]
  | i + 1, c :: l => by
    have := gain_take f s i l
    simp only [List.take_succ_cons, gain]
    omega
theorem gain_nil (f : UInt8 → List UInt8) : ∀ l, gain f [] l = 0
  | [] => rfl
  | _ :: l => by simp [gain, gain_nil f l]
theorem gain_cons (f : UInt8 → List UInt8) (a : UInt8) (s : List UInt8) : ∀ l : List UInt8, l.Nodup → gain f (a :: s) l = gain f s l + if a ∈ l then (f a).length - 1 else 0
  | [], _ => by simp [gain]
  | c :: l, h => by
    rw [List.nodup_cons] at h
    have ih := gain_cons f a s l h.2
    simp only [gain, ih, List.count_cons, List.mem_cons]
    by_cases hac : a = c
    · subst hac
      simp [h.1, Nat.add_mul]; omega
    · simp [hac]; omega
theorem gain_app (f : UInt8 → List UInt8) (s t : List UInt8) : ∀ l, gain f (s ++ t) l = gain f s l + gain f t l
  | [] => rfl
  | c :: l => by
    simp only [gain, gain_app f s t l, List.count_append, Nat.add_mul]
    omega
theorem gain_all {f : UInt8 → List UInt8} {olds : List UInt8} {d : Tbl} (hd : TblOk f olds d) : ∀ s, (s.flatMap f).length = s.length + gain f s olds
  | [] => by simp [gain_nil]
  | a :: s => by
    have h1 := (hd.small a).1
    rw [List.flatMap_cons, List.length_append, gain_all hd s, gain_cons f a s olds hd.nodup, List.length_cons]
    rcases hd.cell a with ⟨h2, h3, _⟩ | ⟨h2, _⟩
    · simp [h2, h3]; omega
    · simp [h2]; omega
theorem flat_none {f : UInt8 → List UInt8} {olds : List UInt8} {d : Tbl} (hd : TblOk f olds d) : ∀ s : List UInt8, (s.any fun c => decide (c ∈ olds)) = false → s.flatMap f = s
  | [], _ => rfl
  | a :: s, h => by
    simp only [List.any_cons, Bool.or_eq_false_iff, decide_eq_false_iff_not] at h
    rcases hd.cell a with ⟨_, h3, _⟩ | ⟨h2, _⟩
    · rw [List.flatMap_cons, flat_none hd s h.2, h3]; rfl
    · exact absurd h2 h.1
theorem any_count (s : List UInt8) (l : List UInt8) : (l.any fun c => s.count c != 0) = s.any fun c => decide (c ∈ l) := by
  rw [Bool.eq_iff_iff]
  simp only [List.any_eq_true, decide_eq_true_eq, bne_iff_ne]
  constructor
  · rintro ⟨c, h1, h2⟩
    exact ⟨c, List.count_pos_iff.1 (by omega), h1⟩
  · rintro ⟨c, h1, h2⟩
    exact ⟨c, h2, by have := List.count_pos_iff.2 h1; omega⟩
theorem flat_short {f : UInt8 → List UInt8} {olds : List UInt8} {d : Tbl} (hd : TblOk f olds d) (s : List UInt8) : (s.flatMap f).length ≤ 6 * s.length := by
  induction s with
  | nil => simp
  | cons a s ih =>
    have := (hd.small a).2
    rw [List.flatMap_cons, List.length_append, List.length_cons]
    omega
theorem put_buf (P q : List UInt8) (N : Nat) (_ : P.length + q.length ≤ N) : (u8s P ++ List.replicate (N - P.length) (Value.int .u8 0)).take P.length ++ u8s q ++ (u8s P ++ List.replicate (N - P.length) (Value.int .u8 0)).drop (P.length + q.length) = u8s (P ++ q) ++ List.replicate (N - (P ++ q).length) (Value.int .u8 0) := by
  have e : (u8s P).length = P.length := u8s_len P
  rw [List.take_append_of_le_length (by omega), List.take_of_length_le (by omega), List.drop_append, e, List.drop_of_length_le (by omega), List.nil_append, List.drop_replicate, List.length_append]
  rw [show P.length + q.length - P.length = q.length by omega, show N - P.length - q.length = N - (P.length + q.length) by omega]
  simp [u8s]
theorem bsr_c (f : UInt8 → List UInt8) (olds : List UInt8) (d : Tbl) (hd : TblOk f olds d) (s : List UInt8) (hs : s.length ≤ 1000000) : ∀ H, (∀ w, Facts H w → TblF f olds d w) →
    SpecH Tryz.prog 145 (pvs [.pointer (some ⟨d.b, 0, none⟩), .string (bs s)]) H (Ret (.string (bs (s.flatMap f))) H) := by
  refine factC hm Tryz.func145 (by kernel_rfl) rfl rfl ?_
  ((conv => whnf); (repeat ((first | refine BoxN.own ?_ | refine VrN.norm (wrap_i64 (by omega)) ?_ | refine VrN.keep ?_ | refine DrawN.calm (by decide +kernel) ?_ | refine Nd.mk (by decide +kernel) ?_ | refine Nd.mk (by omega) ?_ | (refine Nd.mk ?_ ?_; focus ((repeat' (first | exact trivial | exact wkE_refl _ | refine And.intro ?_ ?_)); done)) | refine RdN.intro _ rfl (by rfl) ?_); (conv => whnf))))
  refine LdN.one (a := some ⟨d.b, 0, none⟩) (q := 256) (.slice d.ta olds.length d.tcap) rfl (fun w hw => hw.1.1) hd.last ?_
  have hfew := hd.few
  have hz := bs_size s
  have hall := gain_all hd s
  have hsh := flat_short hd s
  ((conv => whnf); (repeat ((first | refine BoxN.own ?_ | refine VrN.norm (wrap_i64 (by omega)) ?_ | refine VrN.keep ?_ | refine DrawN.calm (by decide +kernel) ?_ | refine Nd.mk (by decide +kernel) ?_ | refine Nd.mk (by omega) ?_ | (refine Nd.mk ?_ ?_; focus ((repeat' (first | exact trivial | exact wkE_refl _ | refine And.intro ?_ ?_)); done)) | refine RdN.intro _ rfl (by rfl) ?_); (conv => whnf))))
  rw [hz]
  refine brd_dec (fun h1 => ?_) (fun h1 => ?_)
  · ((conv => whnf); (repeat ((first | refine BoxN.own ?_ | refine VrN.norm (wrap_i64 (by omega)) ?_ | refine VrN.keep ?_ | refine DrawN.calm (by decide +kernel) ?_ | refine Nd.mk (by decide +kernel) ?_ | refine Nd.mk (by omega) ?_ | (refine Nd.mk ?_ ?_; focus ((repeat' (first | exact trivial | exact wkE_refl _ | refine And.intro ?_ ?_)); done)) | refine RdN.intro _ rfl (by rfl) ?_); (conv => whnf))))
    refine LdN.one (a := some ⟨d.b, 0, none⟩) (q := 256) (.slice d.ta olds.length d.tcap) rfl (fun w hw => hw.1.1) hd.last ?_
    ((conv => whnf); (repeat ((first | refine BoxN.own ?_ | refine VrN.norm (wrap_i64 (by omega)) ?_ | refine VrN.keep ?_ | refine DrawN.calm (by decide +kernel) ?_ | refine Nd.mk (by decide +kernel) ?_ | refine Nd.mk (by omega) ?_ | (refine Nd.mk ?_ ?_; focus ((repeat' (first | exact trivial | exact wkE_refl _ | refine And.intro ?_ ?_)); done)) | refine RdN.intro _ rfl (by rfl) ?_); (conv => whnf))))
    refine loopS Nat (fun i => i ≤ olds.length) (fun i => mkS Tryz.f145.ntmps 0 [(0, .c (.v (.pointer (some ⟨d.b, 0, none⟩)))), (1, .c (.v (.string (bs s)))), (5, .c (.v (.int .i64 ((s.length + gain f s (olds.take i) : Nat) : Int)))), (6, .c (.v (.bool ((olds.take i).any fun c => s.count c != 0)))), (30, .c (.v (.slice d.ta olds.length d.tcap))), (31, .c (.v (.int .i64 (olds.length : Int)))), (32, .c (.v (.int .i64 (i : Int))))]) (fun i => olds.length - i) rfl (fun _ => rfl) 0 (Nat.zero_le _) ?_ fun i hi => ?_
    · (repeat' (first | exact trivial | refine And.intro (by with_reducible rfl) ?_ | (with_reducible exact wkC_refl _) | (with_reducible exact wkCs_refl _) | refine And.intro ?_ ?_))
      all_goals first | rfl | (refine av_int ?_; simp [gain]; done)
    ((conv => whnf); (repeat ((first | refine BoxN.own ?_ | refine VrN.norm (wrap_i64 (by omega)) ?_ | refine VrN.keep ?_ | refine DrawN.calm (by decide +kernel) ?_ | refine Nd.mk (by decide +kernel) ?_ | refine Nd.mk (by omega) ?_ | (refine Nd.mk ?_ ?_; focus ((repeat' (first | exact trivial | exact wkE_refl _ | refine And.intro ?_ ?_)); done)) | refine RdN.intro _ rfl (by rfl) ?_); (conv => whnf))))
    refine brd_dec (fun h2 => ?_) (fun h2 => ?_)
    · obtain ⟨c, hc⟩ : ∃ c, olds[i]? = some c := ⟨_, List.getElem?_eq_getElem (by omega)⟩
      have hin : c ∈ olds := List.mem_of_getElem? hc
      have hg := gain_snoc f s c (olds.take i)
      rw [← take_snoc hc] at hg
      ((conv => whnf); (repeat ((first | refine BoxN.own ?_ | refine VrN.norm (wrap_i64 (by omega)) ?_ | refine VrN.keep ?_ | refine DrawN.calm (by decide +kernel) ?_ | refine Nd.mk (by decide +kernel) ?_ | refine Nd.mk (by omega) ?_ | (refine Nd.mk ?_ ?_; focus ((repeat' (first | exact trivial | exact wkE_refl _ | refine And.intro ?_ ?_)); done)) | refine RdN.intro _ rfl (by rfl) ?_); (conv => whnf))))
      refine Nd.mk ⟨hd.tas, by omega, by omega⟩ ?_
      ((conv => whnf); (repeat ((first | refine BoxN.own ?_ | refine VrN.norm (wrap_i64 (by omega)) ?_ | refine VrN.keep ?_ | refine DrawN.calm (by decide +kernel) ?_ | refine Nd.mk (by decide +kernel) ?_ | refine Nd.mk (by omega) ?_ | (refine Nd.mk ?_ ?_; focus ((repeat' (first | exact trivial | exact wkE_refl _ | refine And.intro ?_ ?_)); done)) | refine RdN.intro _ rfl (by rfl) ?_); (conv => whnf))))
      refine LdN.one (.string (bs [c])) rfl (fun w hw => hw.1.2.1) (show (olds.map fun c => Value.string (bs [c]))[i * 1]? = _ by rw [Nat.mul_one]; simp [hc]) ?_
      (((conv => whnf); (repeat ((first | refine BoxN.own ?_ | refine VrN.norm (wrap_i64 (by omega)) ?_ | refine VrN.keep ?_ | refine DrawN.calm (by decide +kernel) ?_ | refine Nd.mk (by decide +kernel) ?_ | refine Nd.mk (by omega) ?_ | (refine Nd.mk ?_ ?_; focus ((repeat' (first | exact trivial | exact wkE_refl _ | refine And.intro ?_ ?_)); done)) | refine RdN.intro _ rfl (by rfl) ?_); (conv => whnf)))); first | refine call1 (Count1_c s c _) ?_ | refine callQ (Count1_c s c _) ?_)
      ((conv => whnf); (repeat ((first | refine BoxN.own ?_ | refine VrN.norm (wrap_i64 (by omega)) ?_ | refine VrN.keep ?_ | refine DrawN.calm (by decide +kernel) ?_ | refine Nd.mk (by decide +kernel) ?_ | refine Nd.mk (by omega) ?_ | (refine Nd.mk ?_ ?_; focus ((repeat' (first | exact trivial | exact wkE_refl _ | refine And.intro ?_ ?_)); done)) | refine RdN.intro _ rfl (by rfl) ?_); (conv => whnf))))
      have hL := hd.small c
      have hcs := List.count_le_length (a := c) (l := s)
      have hany : ((olds.take (i + 1)).any fun c => s.count c != 0) = ((olds.take i).any (fun c => s.count c != 0) || s.count c != 0) := by rw [take_snoc hc, List.any_append]; simp
      have hgb := gain_take f s i olds
      refine brd_ne (fun h3 => ?_) (fun h3 => ?_)
      · obtain ⟨a, cap, ha⟩ : ∃ a cap, d.cells[c.toNat]? = some (.slice (some a) (f c).length cap) := by
          rcases hd.cell c with h | h
          · exact absurd hin h.1
          · exact h.2
        generalize (f c).length = L at *
        ((conv => whnf); (repeat ((first | refine BoxN.own ?_ | refine VrN.norm (wrap_i64 (by omega)) ?_ | refine VrN.keep ?_ | refine DrawN.calm (by decide +kernel) ?_ | refine Nd.mk (by decide +kernel) ?_ | refine Nd.mk (by omega) ?_ | (refine Nd.mk ?_ ?_; focus ((repeat' (first | exact trivial | exact wkE_refl _ | refine And.intro ?_ ?_)); done)) | refine RdN.intro _ rfl (by rfl) ?_); (conv => whnf))))
        refine Nd.mk ⟨by omega, by rw [bs_size]; simp⟩ ?_
        have hb0 : byteAt (bs [c]) (Int.toNat 0) = (c.toNat : Int) := byteAt_get rfl
        have hc256 := c.toNat_lt
        (conv => whnf)
        rw [hb0]
        refine Nd.mk ⟨by omega, by omega⟩ ?_
        ((conv => whnf); (repeat ((first | refine BoxN.own ?_ | refine VrN.norm (wrap_i64 (by omega)) ?_ | refine VrN.keep ?_ | refine DrawN.calm (by decide +kernel) ?_ | refine Nd.mk (by decide +kernel) ?_ | refine Nd.mk (by omega) ?_ | (refine Nd.mk ?_ ?_; focus ((repeat' (first | exact trivial | exact wkE_refl _ | refine And.intro ?_ ?_)); done)) | refine RdN.intro _ rfl (by rfl) ?_); (conv => whnf))))
        refine LdN.fld (a := some ⟨d.b, 0, none⟩) (q := 0) (.slice (some a) L cap) rfl (fun w hw => hw.1.1) (show d.cells[0 + c.toNat * 1]? = _ by simpa using ha) ?_
        (conv => whnf)
        refine VrN.norm (m := ((s.length + gain f s (olds.take (i + 1)) : Nat) : Int)) (by
          have h6 : L = 1 ∨ L = 2 ∨ L = 3 ∨ L = 4 ∨ L = 5 ∨ L = 6 := by omega
          rw [hg]
          rcases h6 with rfl | rfl | rfl | rfl | rfl | rfl <;> (simp (disch := omega) only [wrap_i64]; omega)) ?_
        ((conv => whnf); (repeat ((first | refine BoxN.own ?_ | refine VrN.norm (wrap_i64 (by omega)) ?_ | refine VrN.keep ?_ | refine DrawN.calm (by decide +kernel) ?_ | refine Nd.mk (by decide +kernel) ?_ | refine Nd.mk (by omega) ?_ | (refine Nd.mk ?_ ?_; focus ((repeat' (first | exact trivial | exact wkE_refl _ | refine And.intro ?_ ?_)); done)) | refine RdN.intro _ rfl (by rfl) ?_); (conv => whnf))))
        refine ⟨i + 1, by omega, by omega, ?_, by (repeat' (first | exact trivial | exact wkE_refl _ | refine And.intro ?_ ?_))⟩
        (repeat' (first | exact trivial | refine And.intro (by with_reducible rfl) ?_ | (with_reducible exact wkC_refl _) | (with_reducible exact wkCs_refl _) | refine And.intro ?_ ?_))
        · refine av_bool ?_
          rw [hany]
          have : (s.count c != 0) = true := by simp; omega
          rw [this, Bool.or_true]
        · exact av_int (by rw [wrap_i64 (by omega)]; omega)
      · ((conv => whnf); (repeat ((first | refine BoxN.own ?_ | refine VrN.norm (wrap_i64 (by omega)) ?_ | refine VrN.keep ?_ | refine DrawN.calm (by decide +kernel) ?_ | refine Nd.mk (by decide +kernel) ?_ | refine Nd.mk (by omega) ?_ | (refine Nd.mk ?_ ?_; focus ((repeat' (first | exact trivial | exact wkE_refl _ | refine And.intro ?_ ?_)); done)) | refine RdN.intro _ rfl (by rfl) ?_); (conv => whnf))))
        refine ⟨i + 1, by omega, by omega, ?_, by (repeat' (first | exact trivial | exact wkE_refl _ | refine And.intro ?_ ?_))⟩
        have h0 : s.count c = 0 := by omega
        (repeat' (first | exact trivial | refine And.intro (by with_reducible rfl) ?_ | (with_reducible exact wkC_refl _) | (with_reducible exact wkCs_refl _) | refine And.intro ?_ ?_))
        · refine av_int ?_
          rw [hg, h0]
          simp
        · refine av_bool ?_
          rw [hany, h0]
          simp
        · exact av_int (by rw [wrap_i64 (by omega)]; omega)
    · have hil : i = olds.length := by omega
      subst hil
      rw [List.take_length, any_count, ← hall]
      cases hA : s.any fun c => decide (c ∈ olds) with
      | false =>
        rw [flat_none hd s hA] at *
        ((conv => whnf); (repeat ((first | refine BoxN.own ?_ | refine VrN.norm (wrap_i64 (by omega)) ?_ | refine VrN.keep ?_ | refine DrawN.calm (by decide +kernel) ?_ | refine Nd.mk (by decide +kernel) ?_ | refine Nd.mk (by omega) ?_ | (refine Nd.mk ?_ ?_; focus ((repeat' (first | exact trivial | exact wkE_refl _ | refine And.intro ?_ ?_)); done)) | refine RdN.intro _ rfl (by rfl) ?_); (conv => whnf))))
      | true =>
        generalize hN : (s.flatMap f).length = N at *
        ((conv => whnf); (repeat ((first | refine BoxN.own ?_ | refine VrN.norm (wrap_i64 (by omega)) ?_ | refine VrN.keep ?_ | refine DrawN.calm (by decide +kernel) ?_ | refine Nd.mk (by decide +kernel) ?_ | refine Nd.mk (by omega) ?_ | (refine Nd.mk ?_ ?_; focus ((repeat' (first | exact trivial | exact wkE_refl _ | refine And.intro ?_ ?_)); done)) | refine RdN.intro _ rfl (by rfl) ?_); (conv => whnf))))
        refine EffW.mkBytes N rfl Tryz.underlying22 (by kernel_rfl) rfl rfl (by omega) fun b => ?_
        ((conv => whnf); (repeat ((first | refine BoxN.own ?_ | refine VrN.norm (wrap_i64 (by omega)) ?_ | refine VrN.keep ?_ | refine DrawN.calm (by decide +kernel) ?_ | refine Nd.mk (by decide +kernel) ?_ | refine Nd.mk (by omega) ?_ | (refine Nd.mk ?_ ?_; focus ((repeat' (first | exact trivial | exact wkE_refl _ | refine And.intro ?_ ?_)); done)) | refine RdN.intro _ rfl (by rfl) ?_); (conv => whnf))))
        refine LoopN.intro Nat (fun i => i ≤ s.length) (fun i => mkS Tryz.f145.ntmps 0 [(0, .c (.v (.pointer (some ⟨d.b, 0, none⟩)))), (1, .c (.v (.string (bs s)))), (12, .c (.v (.slice (some ⟨b, 0, none⟩) N N))), (13, .c (.v (.int .i64 (((s.take i).flatMap f).length : Int)))), (14, .c (.v (.int .i64 (i : Int))))])
          (fun i => [.fact (TblF f olds d), .app 5 1 (u8s ((s.take i).flatMap f) ++ List.replicate (N - ((s.take i).flatMap f).length) (.int .u8 0)) (some ⟨b, 0, none⟩) N N]) (fun i => s.length - i) [] rfl
          (fun _ => rfl) (fun _ => rfl) (fun _ _ => okHB_eq rfl) ⟨0, Nat.zero_le _, ?_, wkH_of_eq (by simp [u8s])⟩ ?_
        · (repeat' (first | exact trivial | refine And.intro (by with_reducible rfl) ?_ | (with_reducible exact wkC_refl _) | (with_reducible exact wkCs_refl _) | refine And.intro ?_ ?_))
          all_goals rfl
        intro i hi
        ((conv => whnf); (repeat ((first | refine BoxN.own ?_ | refine VrN.norm (wrap_i64 (by omega)) ?_ | refine VrN.keep ?_ | refine DrawN.calm (by decide +kernel) ?_ | refine Nd.mk (by decide +kernel) ?_ | refine Nd.mk (by omega) ?_ | (refine Nd.mk ?_ ?_; focus ((repeat' (first | exact trivial | exact wkE_refl _ | refine And.intro ?_ ?_)); done)) | refine RdN.intro _ rfl (by rfl) ?_); (conv => whnf))))
        rw [hz]
        refine brd_dec (fun h2 => ?_) (fun h2 => ?_)
        · obtain ⟨c, hc⟩ : ∃ c, s[i]? = some c := ⟨_, List.getElem?_eq_getElem (by omega)⟩
          have hb : byteAt (bs s) (Int.toNat (i : Int)) = (c.toNat : Int) := by rw [Int.toNat_natCast]; exact byteAt_get hc
          have hc256 := c.toNat_lt
          have hnext : (s.take (i + 1)).flatMap f = (s.take i).flatMap f ++ f c := by rw [take_snoc hc, List.flatMap_append]; simp
          have hle : ((s.take (i + 1)).flatMap f).length ≤ N := by
            rw [← hN]
            conv => rhs; rw [← List.take_append_drop (i + 1) s, List.flatMap_append, List.length_append]
            omega
          rw [hnext, List.length_append] at hle
          have hL := hd.small c
          generalize (s.take i).flatMap f = P at *
          ((conv => whnf); (repeat ((first | refine BoxN.own ?_ | refine VrN.norm (wrap_i64 (by omega)) ?_ | refine VrN.keep ?_ | refine DrawN.calm (by decide +kernel) ?_ | refine Nd.mk (by decide +kernel) ?_ | refine Nd.mk (by omega) ?_ | (refine Nd.mk ?_ ?_; focus ((repeat' (first | exact trivial | exact wkE_refl _ | refine And.intro ?_ ?_)); done)) | refine RdN.intro _ rfl (by rfl) ?_); (conv => whnf))))
          rw [hb]
          rcases hd.cell c with ⟨_, hfc, ha⟩ | ⟨_, a, cap, ha⟩
          · refine LdN.fld (a := some ⟨d.b, 0, none⟩) (q := 0) (.slice none 0 0) rfl (fun w hw => hw.1.1) (show d.cells[0 + c.toNat * 1]? = _ by simpa using ha) ?_
            ((conv => whnf); (repeat ((first | refine BoxN.own ?_ | refine VrN.norm (wrap_i64 (by omega)) ?_ | refine VrN.keep ?_ | refine DrawN.calm (by decide +kernel) ?_ | refine Nd.mk (by decide +kernel) ?_ | refine Nd.mk (by omega) ?_ | (refine Nd.mk ?_ ?_; focus ((repeat' (first | exact trivial | exact wkE_refl _ | refine And.intro ?_ ?_)); done)) | refine RdN.intro _ rfl (by rfl) ?_); (conv => whnf))))
            refine Nd.mk ⟨rfl, by omega, by rw [hfc] at hle; simp at hle; omega⟩ ?_
            ((conv => whnf); (repeat ((first | refine BoxN.own ?_ | refine VrN.norm (wrap_i64 (by omega)) ?_ | refine VrN.keep ?_ | refine DrawN.calm (by decide +kernel) ?_ | refine Nd.mk (by decide +kernel) ?_ | refine Nd.mk (by omega) ?_ | (refine Nd.mk ?_ ?_; focus ((repeat' (first | exact trivial | exact wkE_refl _ | refine And.intro ?_ ?_)); done)) | refine RdN.intro _ rfl (by rfl) ?_); (conv => whnf))))
            refine EffW.app (i := 1) (q := P.length) (ys := [.int .u8 (c.toNat : Int)]) rfl (by rw [Int.toNat_natCast]; show AV.c (CV.v (Value.pointer (some ((⟨b, 0, none⟩ : Addr).add (P.length * 1))))) = _; rw [add_lit0, Nat.mul_one]) rfl rfl rfl rfl rfl (by rw [hfc] at hle; simp at hle ⊢; omega) ?_
            ((conv => whnf); (repeat ((first | refine BoxN.own ?_ | refine VrN.norm (wrap_i64 (by omega)) ?_ | refine VrN.keep ?_ | refine DrawN.calm (by decide +kernel) ?_ | refine Nd.mk (by decide +kernel) ?_ | refine Nd.mk (by omega) ?_ | (refine Nd.mk ?_ ?_; focus ((repeat' (first | exact trivial | exact wkE_refl _ | refine And.intro ?_ ?_)); done)) | refine RdN.intro _ rfl (by rfl) ?_); (conv => whnf))))
            refine ⟨i + 1, by omega, by omega, ?_, ⟨wkE_refl _, ?_, wkH_nil _⟩⟩
            · (repeat' (first | exact trivial | refine And.intro (by with_reducible rfl) ?_ | (with_reducible exact wkC_refl _) | (with_reducible exact wkCs_refl _) | refine And.intro ?_ ?_))
              · refine av_int ?_
                rw [hnext, hfc]
                simp
              · exact av_int (by omega)
            · rw [hnext, hfc]
              have e := put_buf P [c] N (by rw [hfc] at hle; exact hle)
              refine .inl ⟨rfl, rfl, ?_, rfl, rfl, rfl⟩
              exact e
          · refine LdN.fld (a := some ⟨d.b, 0, none⟩) (q := 0) (.slice (some a) (f c).length cap) rfl (fun w hw => hw.1.1) (show d.cells[0 + c.toNat * 1]? = _ by simpa using ha) ?_
            ((conv => whnf); (repeat ((first | refine BoxN.own ?_ | refine VrN.norm (wrap_i64 (by omega)) ?_ | refine VrN.keep ?_ | refine DrawN.calm (by decide +kernel) ?_ | refine Nd.mk (by decide +kernel) ?_ | refine Nd.mk (by omega) ?_ | (refine Nd.mk ?_ ?_; focus ((repeat' (first | exact trivial | exact wkE_refl _ | refine And.intro ?_ ?_)); done)) | refine RdN.intro _ rfl (by rfl) ?_); (conv => whnf))))
            refine DrawN.plan [0, 1, 2, 4, 5] [(3, 1), (6, 1), (7, 1), (8, 1), (9, 1)] [(10, 0), (11, 0), (12, 0)] (by decide +kernel) ?_
            ((conv => whnf); (repeat ((first | refine BoxN.own ?_ | refine VrN.norm (wrap_i64 (by omega)) ?_ | refine VrN.keep ?_ | refine DrawN.calm (by decide +kernel) ?_ | refine Nd.mk (by decide +kernel) ?_ | refine Nd.mk (by omega) ?_ | (refine Nd.mk ?_ ?_; focus ((repeat' (first | exact trivial | exact wkE_refl _ | refine And.intro ?_ ?_)); done)) | refine RdN.intro _ rfl (by rfl) ?_); (conv => whnf))))
            refine ReadW.slc_l P.length rfl Tryz.underlying22 (by kernel_rfl) rfl rfl ⟨rfl, by omega, by omega, by omega⟩ ?_
            ((conv => whnf); (repeat ((first | refine BoxN.own ?_ | refine VrN.norm (wrap_i64 (by omega)) ?_ | refine VrN.keep ?_ | refine DrawN.calm (by decide +kernel) ?_ | refine Nd.mk (by decide +kernel) ?_ | refine Nd.mk (by omega) ?_ | (refine Nd.mk ?_ ?_; focus ((repeat' (first | exact trivial | exact wkE_refl _ | refine And.intro ?_ ?_)); done)) | refine RdN.intro _ rfl (by rfl) ?_); (conv => whnf))))
            refine LdN.fld (a := some ⟨d.b, 0, none⟩) (q := 0) (.slice (some a) (f c).length cap) rfl (fun w hw => hw.1.1) (show d.cells[0 + c.toNat * 1]? = _ by simpa using ha) ?_
            ((conv => whnf); (repeat ((first | refine BoxN.own ?_ | refine VrN.norm (wrap_i64 (by omega)) ?_ | refine VrN.keep ?_ | refine DrawN.calm (by decide +kernel) ?_ | refine Nd.mk (by decide +kernel) ?_ | refine Nd.mk (by omega) ?_ | (refine Nd.mk ?_ ?_; focus ((repeat' (first | exact trivial | exact wkE_refl _ | refine And.intro ?_ ?_)); done)) | refine RdN.intro _ rfl (by rfl) ?_); (conv => whnf))))
            refine EffW.copyIn 1 rfl rfl rfl Tryz.underlying22 (by kernel_rfl) rfl rfl rfl (fun w hw => hw.1.2.2 c a cap ha) (by simp [u8s, Value.oneCell']) (by omega) (by omega) ?_
            ((conv => whnf); (repeat ((first | refine BoxN.own ?_ | refine VrN.norm (wrap_i64 (by omega)) ?_ | refine VrN.keep ?_ | refine DrawN.calm (by decide +kernel) ?_ | refine Nd.mk (by decide +kernel) ?_ | refine Nd.mk (by omega) ?_ | (refine Nd.mk ?_ ?_; focus ((repeat' (first | exact trivial | exact wkE_refl _ | refine And.intro ?_ ?_)); done)) | refine RdN.intro _ rfl (by rfl) ?_); (conv => whnf))))
            refine ⟨i + 1, by omega, by omega, ?_, ⟨wkE_refl _, ?_, wkH_nil _⟩⟩
            · (repeat' (first | exact trivial | refine And.intro (by with_reducible rfl) ?_ | (with_reducible exact wkC_refl _) | (with_reducible exact wkCs_refl _) | refine And.intro ?_ ?_))
              · refine av_int ?_
                rw [hnext]
                simp
              · exact av_int (by omega)
            · rw [hnext]
              exact .inl ⟨rfl, rfl, put_buf P (f c) N hle, rfl, rfl, rfl⟩
        · have hil : i = s.length := by omega
          subst hil
          rw [List.take_length, hN, Nat.sub_self, List.replicate_zero, List.append_nil]
          ((conv => whnf); (repeat ((first | refine BoxN.own ?_ | refine VrN.norm (wrap_i64 (by omega)) ?_ | refine VrN.keep ?_ | refine DrawN.calm (by decide +kernel) ?_ | refine Nd.mk (by decide +kernel) ?_ | refine Nd.mk (by omega) ?_ | (refine Nd.mk ?_ ?_; focus ((repeat' (first | exact trivial | exact wkE_refl _ | refine And.intro ?_ ?_)); done)) | refine RdN.intro _ rfl (by rfl) ?_); (conv => whnf))))
          refine ReadW.bytes (s.flatMap f) hN rfl Tryz.underlying22 Tryz.underlying5 Tryz.underlying9 rfl (fun w hw => by have := hw.2.1; rwa [Nat.mul_one] at this) ?_
          ((conv => whnf); (repeat ((first | refine BoxN.own ?_ | refine VrN.norm (wrap_i64 (by omega)) ?_ | refine VrN.keep ?_ | refine DrawN.calm (by decide +kernel) ?_ | refine Nd.mk (by decide +kernel) ?_ | refine Nd.mk (by omega) ?_ | (refine Nd.mk ?_ ?_; focus ((repeat' (first | exact trivial | exact wkE_refl _ | refine And.intro ?_ ?_)); done)) | refine RdN.intro _ rfl (by rfl) ?_); (conv => whnf))))
          rfl
  · ((conv => whnf); (repeat ((first | refine BoxN.own ?_ | refine VrN.norm (wrap_i64 (by omega)) ?_ | refine VrN.keep ?_ | refine DrawN.calm (by decide +kernel) ?_ | refine Nd.mk (by decide +kernel) ?_ | refine Nd.mk (by omega) ?_ | (refine Nd.mk ?_ ?_; focus ((repeat' (first | exact trivial | exact wkE_refl _ | refine And.intro ?_ ?_)); done)) | refine RdN.intro _ rfl (by rfl) ?_); (conv => whnf))))
    refine loopS Nat (fun i => i ≤ s.length) (fun i => mkS Tryz.f145.ntmps 0 [(0, .c (.v (.pointer (some ⟨d.b, 0, none⟩)))), (1, .c (.v (.string (bs s)))), (5, .c (.v (.int .i64 ((s.length + gain f (s.take i) olds : Nat) : Int)))), (6, .c (.v (.bool ((s.take i).any fun c => decide (c ∈ olds))))), (10, .c (.v (.int .i64 (i : Int))))]) (fun i => s.length - i) rfl (fun _ => rfl) 0 (Nat.zero_le _) ?_ fun i hi => ?_
    · (repeat' (first | exact trivial | refine And.intro (by with_reducible rfl) ?_ | (with_reducible exact wkC_refl _) | (with_reducible exact wkCs_refl _) | refine And.intro ?_ ?_))
      all_goals first | rfl | (refine av_int ?_; simp [gain_nil]; done)
    ((conv => whnf); (repeat ((first | refine BoxN.own ?_ | refine VrN.norm (wrap_i64 (by omega)) ?_ | refine VrN.keep ?_ | refine DrawN.calm (by decide +kernel) ?_ | refine Nd.mk (by decide +kernel) ?_ | refine Nd.mk (by omega) ?_ | (refine Nd.mk ?_ ?_; focus ((repeat' (first | exact trivial | exact wkE_refl _ | refine And.intro ?_ ?_)); done)) | refine RdN.intro _ rfl (by rfl) ?_); (conv => whnf))))
    rw [hz]
    refine brd_dec (fun h2 => ?_) (fun h2 => ?_)
    · obtain ⟨c, hc⟩ : ∃ c, s[i]? = some c := ⟨_, List.getElem?_eq_getElem (by omega)⟩
      have hb : byteAt (bs s) (Int.toNat (i : Int)) = (c.toNat : Int) := by rw [Int.toNat_natCast]; exact byteAt_get hc
      have hc256 := c.toNat_lt
      have hg : gain f (s.take (i + 1)) olds = gain f (s.take i) olds + if c ∈ olds then (f c).length - 1 else 0 := by
        rw [take_snoc hc, gain_app f _ _ olds, gain_cons f c [] olds hd.nodup, gain_nil]
        omega
      have hany : ((s.take (i + 1)).any fun c => decide (c ∈ olds)) = ((s.take i).any (fun c => decide (c ∈ olds)) || decide (c ∈ olds)) := by rw [take_snoc hc, List.any_append]; simp
      have hL := hd.small c
      have hgb := gain_all hd (s.take i)
      have hgs := flat_short hd (s.take i)
      have hti : (s.take i).length ≤ s.length := by simp; omega
      ((conv => whnf); (repeat ((first | refine BoxN.own ?_ | refine VrN.norm (wrap_i64 (by omega)) ?_ | refine VrN.keep ?_ | refine DrawN.calm (by decide +kernel) ?_ | refine Nd.mk (by decide +kernel) ?_ | refine Nd.mk (by omega) ?_ | (refine Nd.mk ?_ ?_; focus ((repeat' (first | exact trivial | exact wkE_refl _ | refine And.intro ?_ ?_)); done)) | refine RdN.intro _ rfl (by rfl) ?_); (conv => whnf))))
      rw [hb]
      rcases hd.cell c with ⟨hin, hfc, ha⟩ | ⟨hin, a, cap, ha⟩
      · refine LdN.fld (a := some ⟨d.b, 0, none⟩) (q := 0) (.slice none 0 0) rfl (fun w hw => hw.1.1) (show d.cells[0 + c.toNat * 1]? = _ by simpa using ha) ?_
        ((conv => whnf); (repeat ((first | refine BoxN.own ?_ | refine VrN.norm (wrap_i64 (by omega)) ?_ | refine VrN.keep ?_ | refine DrawN.calm (by decide +kernel) ?_ | refine Nd.mk (by decide +kernel) ?_ | refine Nd.mk (by omega) ?_ | (refine Nd.mk ?_ ?_; focus ((repeat' (first | exact trivial | exact wkE_refl _ | refine And.intro ?_ ?_)); done)) | refine RdN.intro _ rfl (by rfl) ?_); (conv => whnf))))
        refine ⟨i + 1, by omega, by omega, ?_, by (repeat' (first | exact trivial | exact wkE_refl _ | refine And.intro ?_ ?_))⟩
        (repeat' (first | exact trivial | refine And.intro (by with_reducible rfl) ?_ | (with_reducible exact wkC_refl _) | (with_reducible exact wkCs_refl _) | refine And.intro ?_ ?_))
        · refine av_int ?_
          rw [hg]
          simp [hin]
        · refine av_bool ?_
          rw [hany]
          simp [hin]
        · exact av_int (by omega)
      · rw [if_pos hin] at hg
        refine LdN.fld (a := some ⟨d.b, 0, none⟩) (q := 0) (.slice (some a) (f c).length cap) rfl (fun w hw => hw.1.1) (show d.cells[0 + c.toNat * 1]? = _ by simpa using ha) ?_
        ((conv => whnf); (repeat ((first | refine BoxN.own ?_ | refine VrN.norm (wrap_i64 (by omega)) ?_ | refine VrN.keep ?_ | refine DrawN.calm (by decide +kernel) ?_ | refine Nd.mk (by decide +kernel) ?_ | refine Nd.mk (by omega) ?_ | (refine Nd.mk ?_ ?_; focus ((repeat' (first | exact trivial | exact wkE_refl _ | refine And.intro ?_ ?_)); done)) | refine RdN.intro _ rfl (by rfl) ?_); (conv => whnf))))
        refine LdN.fld (a := some ⟨d.b, 0, none⟩) (q := 0) (.slice (some a) (f c).length cap) rfl (fun w hw => hw.1.1) (show d.cells[0 + c.toNat * 1]? = _ by simpa using ha) ?_
        (conv => whnf)
        refine VrN.norm (m := ((s.length + gain f (s.take (i + 1)) olds : Nat) : Int)) (by
          rw [hg, wrap_i64 (x := ((f c).length : Int) - 1) (by omega), wrap_i64 (by omega)]
          omega) ?_
        ((conv => whnf); (repeat ((first | refine BoxN.own ?_ | refine VrN.norm (wrap_i64 (by omega)) ?_ | refine VrN.keep ?_ | refine DrawN.calm (by decide +kernel) ?_ | refine Nd.mk (by decide +kernel) ?_ | refine Nd.mk (by omega) ?_ | (refine Nd.mk ?_ ?_; focus ((repeat' (first | exact trivial | exact wkE_refl _ | refine And.intro ?_ ?_)); done)) | refine RdN.intro _ rfl (by rfl) ?_); (conv => whnf))))
        refine ⟨i + 1, by omega, by omega, ?_, by (repeat' (first | exact trivial | exact wkE_refl _ | refine And.intro ?_ ?_))⟩
        (repeat' (first | exact trivial | refine And.intro (by with_reducible rfl) ?_ | (with_reducible exact wkC_refl _) | (with_reducible exact wkCs_refl _) | refine And.intro ?_ ?_))
        · refine av_bool ?_
          rw [hany]
          simp [hin]
        · exact av_int (by omega)
    · have hil : i = s.length := by omega
      subst hil
      rw [List.take_length, ← hall]
      cases hA : s.any fun c => decide (c ∈ olds) with
      | false =>
        rw [flat_none hd s hA] at *
        ((conv => whnf); (repeat ((first | refine BoxN.own ?_ | refine VrN.norm (wrap_i64 (by omega)) ?_ | refine VrN.keep ?_ | refine DrawN.calm (by decide +kernel) ?_ | refine Nd.mk (by decide +kernel) ?_ | refine Nd.mk (by omega) ?_ | (refine Nd.mk ?_ ?_; focus ((repeat' (first | exact trivial | exact wkE_refl _ | refine And.intro ?_ ?_)); done)) | refine RdN.intro _ rfl (by rfl) ?_); (conv => whnf))))
      | true =>
        generalize hN : (s.flatMap f).length = N at *
        ((conv => whnf); (repeat ((first | refine BoxN.own ?_ | refine VrN.norm (wrap_i64 (by omega)) ?_ | refine VrN.keep ?_ | refine DrawN.calm (by decide +kernel) ?_ | refine Nd.mk (by decide +kernel) ?_ | refine Nd.mk (by omega) ?_ | (refine Nd.mk ?_ ?_; focus ((repeat' (first | exact trivial | exact wkE_refl _ | refine And.intro ?_ ?_)); done)) | refine RdN.intro _ rfl (by rfl) ?_); (conv => whnf))))
        refine EffW.mkBytes N rfl Tryz.underlying22 (by kernel_rfl) rfl rfl (by omega) fun b => ?_
        ((conv => whnf); (repeat ((first | refine BoxN.own ?_ | refine VrN.norm (wrap_i64 (by omega)) ?_ | refine VrN.keep ?_ | refine DrawN.calm (by decide +kernel) ?_ | refine Nd.mk (by decide +kernel) ?_ | refine Nd.mk (by omega) ?_ | (refine Nd.mk ?_ ?_; focus ((repeat' (first | exact trivial | exact wkE_refl _ | refine And.intro ?_ ?_)); done)) | refine RdN.intro _ rfl (by rfl) ?_); (conv => whnf))))
        refine LoopN.intro Nat (fun i => i ≤ s.length) (fun i => mkS Tryz.f145.ntmps 0 [(0, .c (.v (.pointer (some ⟨d.b, 0, none⟩)))), (1, .c (.v (.string (bs s)))), (12, .c (.v (.slice (some ⟨b, 0, none⟩) N N))), (13, .c (.v (.int .i64 (((s.take i).flatMap f).length : Int)))), (14, .c (.v (.int .i64 (i : Int))))])
          (fun i => [.fact (TblF f olds d), .app 5 1 (u8s ((s.take i).flatMap f) ++ List.replicate (N - ((s.take i).flatMap f).length) (.int .u8 0)) (some ⟨b, 0, none⟩) N N]) (fun i => s.length - i) [] rfl
          (fun _ => rfl) (fun _ => rfl) (fun _ _ => okHB_eq rfl) ⟨0, Nat.zero_le _, ?_, wkH_of_eq (by simp [u8s])⟩ ?_
        · (repeat' (first | exact trivial | refine And.intro (by with_reducible rfl) ?_ | (with_reducible exact wkC_refl _) | (with_reducible exact wkCs_refl _) | refine And.intro ?_ ?_))
          all_goals rfl
        intro i hi
        ((conv => whnf); (repeat ((first | refine BoxN.own ?_ | refine VrN.norm (wrap_i64 (by omega)) ?_ | refine VrN.keep ?_ | refine DrawN.calm (by decide +kernel) ?_ | refine Nd.mk (by decide +kernel) ?_ | refine Nd.mk (by omega) ?_ | (refine Nd.mk ?_ ?_; focus ((repeat' (first | exact trivial | exact wkE_refl _ | refine And.intro ?_ ?_)); done)) | refine RdN.intro _ rfl (by rfl) ?_); (conv => whnf))))
        rw [hz]
        refine brd_dec (fun h2 => ?_) (fun h2 => ?_)
        · obtain ⟨c, hc⟩ : ∃ c, s[i]? = some c := ⟨_, List.getElem?_eq_getElem (by omega)⟩
          have hb : byteAt (bs s) (Int.toNat (i : Int)) = (c.toNat : Int) := by rw [Int.toNat_natCast]; exact byteAt_get hc
          have hc256 := c.toNat_lt
          have hnext : (s.take (i + 1)).flatMap f = (s.take i).flatMap f ++ f c := by rw [take_snoc hc, List.flatMap_append]; simp
          have hle : ((s.take (i + 1)).flatMap f).length ≤ N := by
            rw [← hN]
            conv => rhs; rw [← List.take_append_drop (i + 1) s, List.flatMap_append, List.length_append]
            omega
          rw [hnext, List.length_append] at hle
          have hL := hd.small c
          generalize (s.take i).flatMap f = P at *
          ((conv => whnf); (repeat ((first | refine BoxN.own ?_ | refine VrN.norm (wrap_i64 (by omega)) ?_ | refine VrN.keep ?_ | refine DrawN.calm (by decide +kernel) ?_ | refine Nd.mk (by decide +kernel) ?_ | refine Nd.mk (by omega) ?_ | (refine Nd.mk ?_ ?_; focus ((repeat' (first | exact trivial | exact wkE_refl _ | refine And.intro ?_ ?_)); done)) | refine RdN.intro _ rfl (by rfl) ?_); (conv => whnf))))
          rw [hb]
          rcases hd.cell c with ⟨_, hfc, ha⟩ | ⟨_, a, cap, ha⟩
          · refine LdN.fld (a := some ⟨d.b, 0, none⟩) (q := 0) (.slice none 0 0) rfl (fun w hw => hw.1.1) (show d.cells[0 + c.toNat * 1]? = _ by simpa using ha) ?_
            ((conv => whnf); (repeat ((first | refine BoxN.own ?_ | refine VrN.norm (wrap_i64 (by omega)) ?_ | refine VrN.keep ?_ | refine DrawN.calm (by decide +kernel) ?_ | refine Nd.mk (by decide +kernel) ?_ | refine Nd.mk (by omega) ?_ | (refine Nd.mk ?_ ?_; focus ((repeat' (first | exact trivial | exact wkE_refl _ | refine And.intro ?_ ?_)); done)) | refine RdN.intro _ rfl (by rfl) ?_); (conv => whnf))))
            refine Nd.mk ⟨rfl, by omega, by rw [hfc] at hle; simp at hle; omega⟩ ?_
            ((conv => whnf); (repeat ((first | refine BoxN.own ?_ | refine VrN.norm (wrap_i64 (by omega)) ?_ | refine VrN.keep ?_ | refine DrawN.calm (by decide +kernel) ?_ | refine Nd.mk (by decide +kernel) ?_ | refine Nd.mk (by omega) ?_ | (refine Nd.mk ?_ ?_; focus ((repeat' (first | exact trivial | exact wkE_refl _ | refine And.intro ?_ ?_)); done)) | refine RdN.intro _ rfl (by rfl) ?_); (conv => whnf))))
            refine EffW.app (i := 1) (q := P.length) (ys := [.int .u8 (c.toNat : Int)]) rfl (by rw [Int.toNat_natCast]; show AV.c (CV.v (Value.pointer (some ((⟨b, 0, none⟩ : Addr).add (P.length * 1))))) = _; rw [add_lit0, Nat.mul_one]) rfl rfl rfl rfl rfl (by rw [hfc] at hle; simp at hle ⊢; omega) ?_
            ((conv => whnf); (repeat ((first | refine BoxN.own ?_ | refine VrN.norm (wrap_i64 (by omega)) ?_ | refine VrN.keep ?_ | refine DrawN.calm (by decide +kernel) ?_ | refine Nd.mk (by decide +kernel) ?_ | refine Nd.mk (by omega) ?_ | (refine Nd.mk ?_ ?_; focus ((repeat' (first | exact trivial | exact wkE_refl _ | refine And.intro ?_ ?_)); done)) | refine RdN.intro _ rfl (by rfl) ?_); (conv => whnf))))
            refine ⟨i + 1, by omega, by omega, ?_, ⟨wkE_refl _, ?_, wkH_nil _⟩⟩
            · (repeat' (first | exact trivial | refine And.intro (by with_reducible rfl) ?_ | (with_reducible exact wkC_refl _) | (with_reducible exact wkCs_refl _) | refine And.intro ?_ ?_))
              · refine av_int ?_
                rw [hnext, hfc]
                simp
              · exact av_int (by omega)
            · rw [hnext, hfc]
              have e := put_buf P [c] N (by rw [hfc] at hle; exact hle)
              refine .inl ⟨rfl, rfl, ?_, rfl, rfl, rfl⟩
              exact e
          · refine LdN.fld (a := some ⟨d.b, 0, none⟩) (q := 0) (.slice (some a) (f c).length cap) rfl (fun w hw => hw.1.1) (show d.cells[0 + c.toNat * 1]? = _ by simpa using ha) ?_
            ((conv => whnf); (repeat ((first | refine BoxN.own ?_ | refine VrN.norm (wrap_i64 (by omega)) ?_ | refine VrN.keep ?_ | refine DrawN.calm (by decide +kernel) ?_ | refine Nd.mk (by decide +kernel) ?_ | refine Nd.mk (by omega) ?_ | (refine Nd.mk ?_ ?_; focus ((repeat' (first | exact trivial | exact wkE_refl _ | refine And.intro ?_ ?_)); done)) | refine RdN.intro _ rfl (by rfl) ?_); (conv => whnf))))
            refine DrawN.plan [0, 1, 2, 4, 5] [(3, 1), (6, 1), (7, 1), (8, 1), (9, 1)] [(10, 0), (11, 0), (12, 0)] (by decide +kernel) ?_
            ((conv => whnf); (repeat ((first | refine BoxN.own ?_ | refine VrN.norm (wrap_i64 (by omega)) ?_ | refine VrN.keep ?_ | refine DrawN.calm (by decide +kernel) ?_ | refine Nd.mk (by decide +kernel) ?_ | refine Nd.mk (by omega) ?_ | (refine Nd.mk ?_ ?_; focus ((repeat' (first | exact trivial | exact wkE_refl _ | refine And.intro ?_ ?_)); done)) | refine RdN.intro _ rfl (by rfl) ?_); (conv => whnf))))
            refine ReadW.slc_l P.length rfl Tryz.underlying22 (by kernel_rfl) rfl rfl ⟨rfl, by omega, by omega, by omega⟩ ?_
            ((conv => whnf); (repeat ((first | refine BoxN.own ?_ | refine VrN.norm (wrap_i64 (by omega)) ?_ | refine VrN.keep ?_ | refine DrawN.calm (by decide +kernel) ?_ | refine Nd.mk (by decide +kernel) ?_ | refine Nd.mk (by omega) ?_ | (refine Nd.mk ?_ ?_; focus ((repeat' (first | exact trivial | exact wkE_refl _ | refine And.intro ?_ ?_)); done)) | refine RdN.intro _ rfl (by rfl) ?_); (conv => whnf))))
            refine LdN.fld (a := some ⟨d.b, 0, none⟩) (q := 0) (.slice (some a) (f c).length cap) rfl (fun w hw => hw.1.1) (show d.cells[0 + c.toNat * 1]? = _ by simpa using ha) ?_
            ((conv => whnf); (repeat ((first | refine BoxN.own ?_ | refine VrN.norm (wrap_i64 (by omega)) ?_ | refine VrN.keep ?_ | refine DrawN.calm (by decide +kernel) ?_ | refine Nd.mk (by decide +kernel) ?_ | refine Nd.mk (by omega) ?_ | (refine Nd.mk ?_ ?_; focus ((repeat' (first | exact trivial | exact wkE_refl _ | refine And.intro ?_ ?_)); done)) | refine RdN.intro _ rfl (by rfl) ?_); (conv => whnf))))
            refine EffW.copyIn 1 rfl rfl rfl Tryz.underlying22 (by kernel_rfl) rfl rfl rfl (fun w hw => hw.1.2.2 c a cap ha) (by simp [u8s, Value.oneCell']) (by omega) (by omega) ?_
            ((conv => whnf); (repeat ((first | refine BoxN.own ?_ | refine VrN.norm (wrap_i64 (by omega)) ?_ | refine VrN.keep ?_ | refine DrawN.calm (by decide +kernel) ?_ | refine Nd.mk (by decide +kernel) ?_ | refine Nd.mk (by omega) ?_ | (refine Nd.mk ?_ ?_; focus ((repeat' (first | exact trivial | exact wkE_refl _ | refine And.intro ?_ ?_)); done)) | refine RdN.intro _ rfl (by rfl) ?_); (conv => whnf))))
            refine ⟨i + 1, by omega, by omega, ?_, ⟨wkE_refl _, ?_, wkH_nil _⟩⟩
            · (repeat' (first | exact trivial | refine And.intro (by with_reducible rfl) ?_ | (with_reducible exact wkC_refl _) | (with_reducible exact wkCs_refl _) | refine And.intro ?_ ?_))
              · refine av_int ?_
                rw [hnext]
                simp
              · exact av_int (by omega)
            · rw [hnext]
              exact .inl ⟨rfl, rfl, put_buf P (f c) N hle, rfl, rfl, rfl⟩
        · have hil : i = s.length := by omega
          subst hil
          rw [List.take_length, hN, Nat.sub_self, List.replicate_zero, List.append_nil]
          ((conv => whnf); (repeat ((first | refine BoxN.own ?_ | refine VrN.norm (wrap_i64 (by omega)) ?_ | refine VrN.keep ?_ | refine DrawN.calm (by decide +kernel) ?_ | refine Nd.mk (by decide +kernel) ?_ | refine Nd.mk (by omega) ?_ | (refine Nd.mk ?_ ?_; focus ((repeat' (first | exact trivial | exact wkE_refl _ | refine And.intro ?_ ?_)); done)) | refine RdN.intro _ rfl (by rfl) ?_); (conv => whnf))))
          refine ReadW.bytes (s.flatMap f) hN rfl Tryz.underlying22 Tryz.underlying5 Tryz.underlying9 rfl (fun w hw => by have := hw.2.1; rwa [Nat.mul_one] at this) ?_
          ((conv => whnf); (repeat ((first | refine BoxN.own ?_ | refine VrN.norm (wrap_i64 (by omega)) ?_ | refine VrN.keep ?_ | refine DrawN.calm (by decide +kernel) ?_ | refine Nd.mk (by decide +kernel) ?_ | refine Nd.mk (by omega) ?_ | (refine Nd.mk ?_ ?_; focus ((repeat' (first | exact trivial | exact wkE_refl _ | refine And.intro ?_ ?_)); done)) | refine RdN.intro _ rfl (by rfl) ?_); (conv => whnf))))
          rfl
end Go.Proofs.YtfcjgklghgpddaaGreatDoor

/-
  sync.Once, one goroutine: the parts of its slow road, after the kit's worked LazyParts.
-/
namespace Go.Proofs.YtfcjgklghgpddaaGreatDoor
set_option maxRecDepth 100000
set_option maxHeartbeats 1600000

theorem disable (w : World) : (callFunc 102 #[]).run Tryz.prog w = .ok (.value (.tuple #[])) w := run_call_mark0 Tryz.func102 (by kernel_rfl) (by kernel_rfl) (by kernel_rfl) .disable (by kernel_rfl) w
theorem enable (w : World) : (callFunc 104 #[]).run Tryz.prog w = .ok (.value (.tuple #[])) w := run_call_mark0 Tryz.func104 (by kernel_rfl) (by kernel_rfl) (by kernel_rfl) .enable (by kernel_rfl) w
theorem acquire (a : Addr) (w : World) : (callFunc 105 #[.pointer (some a)]).run Tryz.prog w = .ok (.value (.tuple #[])) w := run_call_marked Tryz.func105 (by kernel_rfl) (by kernel_rfl) (by kernel_rfl) .acquire (by kernel_rfl) a w
theorem releaseMerge (a : Addr) (w : World) : (callFunc 107 #[.pointer (some a)]).run Tryz.prog w = .ok (.value (.tuple #[])) w := run_call_marked Tryz.func107 (by kernel_rfl) (by kernel_rfl) (by kernel_rfl) .releaseMerge (by kernel_rfl) a w

/-- '(*sync/atomic.Bool).Store(true)', entered as a deferred call: the cell holds 1. -/
theorem store_deferred (a : Addr) (x : Value) (u : FrameMode) (w : World) (hc : w.cell? a = some x) (hz : w.frozen? a = false) :
    CallsD Tryz.prog 75 #[.pointer (some a), .bool true] u w fun e u' w' => u' = u ∧ (e = .returned (.tuple #[]) ∧ w' = w.drew.setCell a (.int .u32 1)) := by
  have hc' : w.drew.cell? a = some x := by go_simp
  have hz' : w.drew.frozen? a = false := by go_simp
  have hst := run_call_store (P := Tryz.prog) Tryz.func90 (by kernel_rfl) (by kernel_rfl) (by kernel_rfl) (by kernel_rfl) (k := .u32) (y := 1) hc' hz'
  go_enter_d Tryz.func75, Tryz.ntmps75
  go_wp2
  go_region_calls
  all_goals (go_end0; exact ⟨rfl, rfl⟩)

/-- '(*sync.Mutex).Unlock', entered as a deferred call, the lock held and nobody waiting (state 1): state 0. -/
theorem unlock_deferred (a : Addr) (u : FrameMode) (w : World) (hc : w.cell? a = some (.int .i32 1)) (hz : w.frozen? a = false) :
    CallsD Tryz.prog 74 #[.pointer (some a)] u w fun e u' w' => u' = u ∧ (e = .returned (.tuple #[]) ∧ w' = w.setCell a (.int .i32 0)) := by
  have hd := disable
  have he := enable
  have hr := releaseMerge
  have hadd := run_call_add (P := Tryz.prog) Tryz.func108 (by kernel_rfl) (by kernel_rfl) (by kernel_rfl) .i32 (by kernel_rfl) (y := -1) (s := 0) hc hz (by simp [go_sem]; rfl)
  have hcv := run_convert_to_unsafe (P := Tryz.prog) (src := 150) (dst := 102) Tryz.underlying150 Tryz.underlying102 (by kernel_rfl) hc
  go_enter_d Tryz.func74, Tryz.ntmps74
  go_wp2
  go_end0
  go_wp2
  go_end0
  exact ⟨rfl, rfl⟩

/-- '(*sync.Mutex).Lock', the lock free (state 0): state 1. -/
theorem lock_free (a : Addr) (w : World) (hc : w.cell? a = some (.int .i32 0)) (hz : w.frozen? a = false) :
    Calls Tryz.prog 73 #[.pointer (some a)] w fun e w' => e = .returned (.tuple #[]) ∧ w' = w.setCell a (.int .i32 1) := by
  have hd := disable
  have he := enable
  have ha := acquire
  have hcas := run_call_cas_hit (P := Tryz.prog) Tryz.func103 (by kernel_rfl) (by kernel_rfl) (by kernel_rfl) .i32 (by kernel_rfl) (y := 1) hc hz
  have hc' : (w.setCell a (.int .i32 1)).cell? a = some (.int .i32 1) := World.cell?_setCell_same w a _ hc
  have hcv := run_convert_to_unsafe (P := Tryz.prog) (src := 150) (dst := 102) Tryz.underlying150 Tryz.underlying102 (by kernel_rfl) hc'
  go_enter Tryz.func73, Tryz.ntmps73
  go_wp2
  first | go_end0 | (simp only [Exit.inBlock, Exit.then]; refine bodyPost_ret (results_none rfl _ _ _) rfl ?_) | refine bodyPost_ret (results_none rfl _ _ _) rfl ?_
  go_wp2
  go_end0
  exact ⟨rfl, rfl⟩
end Go.Proofs.YtfcjgklghgpddaaGreatDoor

/-
  sync.Once, one goroutine: Do, not yet done and its lock free, of a function by its contract; Do, done already.
-/
namespace Go.Proofs.YtfcjgklghgpddaaGreatDoor
set_option maxRecDepth 100000
set_option maxHeartbeats 3200000

theorem slow_do (b off : Nat) (p : Value) (Q : World → Prop) (w : World)
    (h0 : w.cell? ⟨b, off, none⟩ = some (.int .u32 0)) (h1 : w.cell? ⟨b, off + 1, none⟩ = some (.int .i32 0))
    (f1 : w.frozen? ⟨b, off + 1, none⟩ = false)
    (hf : Calls Tryz.prog 38 #[p] (w.setCell ⟨b, off + 1, none⟩ (.int .i32 1)) fun e w2 => e = .returned (.tuple #[]) ∧ Q w2)
    (hQ : ∀ w2, Q w2 → (∃ x, w2.cell? ⟨b, off, none⟩ = some x) ∧ w2.cell? ⟨b, off + 1, none⟩ = some (.int .i32 1) ∧ w2.frozen? ⟨b, off, none⟩ = false ∧ w2.frozen? ⟨b, off + 1, none⟩ = false) :
    Calls Tryz.prog 60 #[.pointer (some ⟨b, off, none⟩), .func (.func 38) #[p] #[]] w fun e w' => e = .returned (.tuple #[]) ∧
      ∃ w2, Q w2 ∧ w' = (w2.drew.setCell ⟨b, off, none⟩ (.int .u32 1)).setCell ⟨b, off + 1, none⟩ (.int .i32 0) := by
  have hl := run_call_load (P := Tryz.prog) Tryz.func72 (by kernel_rfl) (by kernel_rfl) (by kernel_rfl) .u32 (by kernel_rfl) (w := w.setCell ⟨b, off + 1, none⟩ (.int .i32 1)) (a := ⟨b, off, none⟩) (x := 0) ((World.cell?_setCell_other _ ⟨b, off + 1, none⟩ ⟨b, off, none⟩ _ (by simp)).trans h0)
  have hnot : ∀ (x : Bool) (w : World), (Op.unary .not (.bool x)).run Tryz.prog w = .ok (.bool (!x)) w := fun _ _ => rfl
  go_enter_defers Tryz.func60, Tryz.ntmps60
  go_wp2_with (go_at_call 73; refine (lock_free ⟨b, off + 1, none⟩ _ (by go_simp) (by go_simp)).mono ?_; rintro e w' ⟨rfl, rfl⟩)
  go_wp2_with (first | (go_at_call 38; refine hf.mono ?_; rintro e w2 ⟨rfl, hq⟩) | (go_at_call 59; go_in))
  obtain ⟨⟨x, hx⟩, hm, z0, z1⟩ := hQ w2 hq
  go_wp2
  refine leaves_cons (f := 75) (args := #[.pointer (some ⟨b, off, none⟩), .bool true]) (by simp) (by simp [go_sem]) ?_
  refine (store_deferred ⟨b, off, none⟩ x .returning _ hx z0).mono ?_
  rintro e u' w'' ⟨rfl, rfl, rfl⟩
  refine leaves_cons (f := 74) (args := #[.pointer (some ⟨b, off + 1, none⟩)]) (by simp [settle]) (by simp [go_sem]) ?_
  refine (unlock_deferred ⟨b, off + 1, none⟩ _ _ ?_ (by simp [z1])).mono ?_
  · refine (World.cell?_setCell_other _ ⟨b, off, none⟩ ⟨b, off + 1, none⟩ _ (by simp)).trans ?_
    rw [World.cell?_drew]
    exact hm
  rintro e u' w'' ⟨rfl, rfl, rfl⟩
  simp [Leaves, settle, results, Tryz.results60]
  exact ⟨w2, hq, rfl⟩
/-- Not yet done, the lock free. -/
theorem do_first (b off : Nat) (p : Value) (Q : World → Prop) (w : World)
    (h0 : w.cell? ⟨b, off, none⟩ = some (.int .u32 0)) (h1 : w.cell? ⟨b, off + 1, none⟩ = some (.int .i32 0))
    (f1 : w.frozen? ⟨b, off + 1, none⟩ = false)
    (hf : Calls Tryz.prog 38 #[p] (w.setCell ⟨b, off + 1, none⟩ (.int .i32 1)) fun e w2 => e = .returned (.tuple #[]) ∧ Q w2)
    (hQ : ∀ w2, Q w2 → (∃ x, w2.cell? ⟨b, off, none⟩ = some x) ∧ w2.cell? ⟨b, off + 1, none⟩ = some (.int .i32 1) ∧ w2.frozen? ⟨b, off, none⟩ = false ∧ w2.frozen? ⟨b, off + 1, none⟩ = false) :
    Calls Tryz.prog 37 #[.pointer (some ⟨b, off, none⟩), .func (.func 38) #[p] #[]] w fun e w' => e = .returned (.tuple #[]) ∧
      ∃ w2, Q w2 ∧ w' = (w2.drew.setCell ⟨b, off, none⟩ (.int .u32 1)).setCell ⟨b, off + 1, none⟩ (.int .i32 0) := by
  have hl := run_call_load (P := Tryz.prog) Tryz.func72 (by kernel_rfl) (by kernel_rfl) (by kernel_rfl) .u32 (by kernel_rfl) h0
  have hnot : ∀ (x : Bool) (w : World), (Op.unary .not (.bool x)).run Tryz.prog w = .ok (.bool (!x)) w := fun _ _ => rfl
  go_enter Tryz.func37, Tryz.ntmps37
  go_wp2_with (first | (go_at_call 60; refine (slow_do b off p Q _ h0 h1 f1 hf hQ).mono ?_; rintro e w' ⟨rfl, hq⟩) | (go_at_call 59; go_in))
  go_end0
  exact ⟨rfl, hq⟩
/-- Done already: the function is not called. -/
theorem do_done (a : Addr) (d : Int) (hd : ¬ d = 0) (fv : Value) (w : World) (h0 : w.cell? a = some (.int .u32 d)) :
    Calls Tryz.prog 37 #[.pointer (some a), fv] w fun e w' => e = .returned (.tuple #[]) ∧ w' = w := by
  have hl := run_call_load (P := Tryz.prog) Tryz.func72 (by kernel_rfl) (by kernel_rfl) (by kernel_rfl) .u32 (by kernel_rfl) h0
  have hnot : ∀ (x : Bool) (w : World), (Op.unary .not (.bool x)).run Tryz.prog w = .ok (.bool (!x)) w := fun _ _ => rfl
  have hd' : (d != 0) = true := by simp [hd]
  go_enter Tryz.func37, Tryz.ntmps37
  go_wp2
  go_end0
  exact ⟨rfl, rfl⟩
end Go.Proofs.YtfcjgklghgpddaaGreatDoor

/-
  Contracts: the last place of a byte; blanks trimmed.
-/
namespace Go.Proofs.YtfcjgklghgpddaaGreatDoor
open Go.AX Go.RowKit
set_option maxRecDepth 20000

/-- The last place of a byte among the first k. -/
def lastAt (s : List UInt8) (c : UInt8) : Nat → Int
  | 0 => -1
  | k + 1 => if s[k]? = some c then (k : Int) else lastAt s c k
theorem lastAt_ge (s : List UInt8) (c : UInt8) : ∀ k, -1 ≤ lastAt s c k ∧ lastAt s c k < k
  | 0 => by simp [lastAt]
  | k + 1 => by
    have := lastAt_ge s c k
    unfold lastAt
    split <;> omega
theorem LastIndexByteString_c (s : List UInt8) (c : UInt8) (hs : s.length ≤ 1000000000) : ∀ H, SpecH Tryz.prog 85 (pvs [.string (bs s), .int .u8 (c.toNat : Int)]) H (Ret (.int .i64 (lastAt s c s.length)) H) := by
  refine pureC hm Tryz.func85 (by kernel_rfl) rfl rfl ?_
  ((conv => whnf); (repeat ((first | refine BoxN.own ?_ | refine VrN.norm (wrap_i64 (by omega)) ?_ | refine VrN.keep ?_ | refine DrawN.calm (by decide +kernel) ?_ | refine Nd.mk (by decide +kernel) ?_ | refine Nd.mk (by omega) ?_ | (refine Nd.mk ?_ ?_; focus ((repeat' (first | exact trivial | exact wkE_refl _ | refine And.intro ?_ ?_)); done)) | refine RdN.intro _ rfl (by rfl) ?_); (conv => whnf))))
  refine loopS Nat (fun k => k ≤ s.length ∧ lastAt s c k = lastAt s c s.length) (fun k => mkS Tryz.f85.ntmps 0 [(0, .c (.v (.string (bs s)))), (1, .c (.v (.int .u8 (c.toNat : Int)))), (5, .c (.v (.int .i64 ((k : Int) - 1))))]) (fun k => k) rfl (fun _ => rfl) s.length ⟨by omega, rfl⟩ ?_ fun k ⟨hk, he⟩ => ?_
  · (repeat' (first | exact trivial | refine And.intro (by with_reducible rfl) ?_ | (with_reducible exact wkC_refl _) | (with_reducible exact wkCs_refl _) | refine And.intro ?_ ?_))
    exact av_int (by simp (disch := omega) only [bs_size, wrap_i64])
  by_cases hk0 : k = 0
  · subst hk0
    ((conv => whnf); (repeat ((first | refine BoxN.own ?_ | refine VrN.norm (wrap_i64 (by omega)) ?_ | refine VrN.keep ?_ | refine DrawN.calm (by decide +kernel) ?_ | refine Nd.mk (by decide +kernel) ?_ | refine Nd.mk (by omega) ?_ | (refine Nd.mk ?_ ?_; focus ((repeat' (first | exact trivial | exact wkE_refl _ | refine And.intro ?_ ?_)); done)) | refine RdN.intro _ rfl (by rfl) ?_); (conv => whnf))))
    rw [← he]; rfl
  · obtain ⟨k, rfl⟩ : ∃ j, k = j + 1 := ⟨k - 1, by omega⟩
    ((conv => whnf); (repeat ((first | refine BoxN.own ?_ | refine VrN.norm (wrap_i64 (by omega)) ?_ | refine VrN.keep ?_ | refine DrawN.calm (by decide +kernel) ?_ | refine Nd.mk (by decide +kernel) ?_ | refine Nd.mk (by omega) ?_ | (refine Nd.mk ?_ ?_; focus ((repeat' (first | exact trivial | exact wkE_refl _ | refine And.intro ?_ ?_)); done)) | refine RdN.intro _ rfl (by rfl) ?_); (conv => whnf))))
    have hc : ∃ x, s[k]? = some x := ⟨_, List.getElem?_eq_getElem (by omega)⟩
    obtain ⟨x, hc⟩ := hc
    have hbx := byteAt_get hc
    refine brd_dec (fun _ => ?_) (fun h => by omega)
    ((conv => whnf); (repeat ((first | refine BoxN.own ?_ | refine VrN.norm (wrap_i64 (by omega)) ?_ | refine VrN.keep ?_ | refine DrawN.calm (by decide +kernel) ?_ | refine Nd.mk (by decide +kernel) ?_ | refine Nd.mk (by omega) ?_ | (refine Nd.mk ?_ ?_; focus ((repeat' (first | exact trivial | exact wkE_refl _ | refine And.intro ?_ ?_)); done)) | refine RdN.intro _ rfl (by rfl) ?_); (conv => whnf))))
    refine Nd.mk ⟨by omega, by rw [bs_size]; omega⟩ ?_
    rw [show (((k + 1 : Nat) : Int) - 1).toNat = k by omega, hbx]
    ((conv => whnf); (repeat ((first | refine BoxN.own ?_ | refine VrN.norm (wrap_i64 (by omega)) ?_ | refine VrN.keep ?_ | refine DrawN.calm (by decide +kernel) ?_ | refine Nd.mk (by decide +kernel) ?_ | refine Nd.mk (by omega) ?_ | (refine Nd.mk ?_ ?_; focus ((repeat' (first | exact trivial | exact wkE_refl _ | refine And.intro ?_ ?_)); done)) | refine RdN.intro _ rfl (by rfl) ?_); (conv => whnf))))
    refine brd_eq (fun h => ?_) (fun h => ?_)
    · have hx : x = c := UInt8.toNat_inj.1 (by omega)
      subst hx
      ((conv => whnf); (repeat ((first | refine BoxN.own ?_ | refine VrN.norm (wrap_i64 (by omega)) ?_ | refine VrN.keep ?_ | refine DrawN.calm (by decide +kernel) ?_ | refine Nd.mk (by decide +kernel) ?_ | refine Nd.mk (by omega) ?_ | (refine Nd.mk ?_ ?_; focus ((repeat' (first | exact trivial | exact wkE_refl _ | refine And.intro ?_ ?_)); done)) | refine RdN.intro _ rfl (by rfl) ?_); (conv => whnf))))
      rw [← he, lastAt, if_pos hc]
      exact out_int (by omega)
    · ((conv => whnf); (repeat ((first | refine BoxN.own ?_ | refine VrN.norm (wrap_i64 (by omega)) ?_ | refine VrN.keep ?_ | refine DrawN.calm (by decide +kernel) ?_ | refine Nd.mk (by decide +kernel) ?_ | refine Nd.mk (by omega) ?_ | (refine Nd.mk ?_ ?_; focus ((repeat' (first | exact trivial | exact wkE_refl _ | refine And.intro ?_ ?_)); done)) | refine RdN.intro _ rfl (by rfl) ?_); (conv => whnf))))
      refine ⟨k, ⟨by omega, ?_⟩, by omega, ?_, by (repeat' (first | exact trivial | exact wkE_refl _ | refine And.intro ?_ ?_))⟩
      · rw [← he, lastAt, if_neg (fun h2 => h (by rw [hc] at h2; cases h2; rfl))]
      · (repeat' (first | exact trivial | refine And.intro (by with_reducible rfl) ?_ | (with_reducible exact wkC_refl _) | (with_reducible exact wkCs_refl _) | refine And.intro ?_ ?_))
        exact av_int (by omega)
theorem LastIndexByte_c (s : List UInt8) (c : UInt8) (hs : s.length ≤ 1000000000) : ∀ H, SpecH Tryz.prog 68 (pvs [.string (bs s), .int .u8 (c.toNat : Int)]) H (Ret (.int .i64 (lastAt s c s.length)) H) := by
  refine pureC hm Tryz.func68 (by kernel_rfl) rfl rfl ?_
  ((conv => whnf); (repeat ((first | refine BoxN.own ?_ | refine VrN.norm (wrap_i64 (by omega)) ?_ | refine VrN.keep ?_ | refine DrawN.calm (by decide +kernel) ?_ | refine Nd.mk (by decide +kernel) ?_ | refine Nd.mk (by omega) ?_ | (refine Nd.mk ?_ ?_; focus ((repeat' (first | exact trivial | exact wkE_refl _ | refine And.intro ?_ ?_)); done)) | refine RdN.intro _ rfl (by rfl) ?_); (conv => whnf)))); refine call1 (LastIndexByteString_c s c hs _) ?_
  ((conv => whnf); (repeat ((first | refine BoxN.own ?_ | refine VrN.norm (wrap_i64 (by omega)) ?_ | refine VrN.keep ?_ | refine DrawN.calm (by decide +kernel) ?_ | refine Nd.mk (by decide +kernel) ?_ | refine Nd.mk (by omega) ?_ | (refine Nd.mk ?_ ?_; focus ((repeat' (first | exact trivial | exact wkE_refl _ | refine And.intro ?_ ?_)); done)) | refine RdN.intro _ rfl (by rfl) ?_); (conv => whnf))))

/-! ### Sets of bytes -/
/-- A table of truth values by byte. -/
def TabB (xs : List Value) (p : UInt8 → Bool) : Prop := ∀ c : UInt8, xs[c.toNat]? = some (.bool (p c))
theorem rnCs_vs (σ : List Nat) (N : Nat) : ∀ xs : List Value, rnCs σ N (vs xs) = vs xs
  | [] => rfl
  | x :: xs => by simp [vs, rnCs, rnC, rnCs_vs σ N xs]
theorem contains_c (T : TypeId) (xs : List Value) (p : UInt8 → Bool) (hp : TabB xs p) (c : UInt8) : SpecH Tryz.prog 69 [.c (.lp 0 0), .c (.v (.int .u8 (c.toNat : Int)))] [.blk T (vs xs)]
    (RetG (ι := Unit) (fun _ => True) (fun _ => .bool (p c)) fun _ => [.blk T (vs xs)]) := by
  refine ownC hm Tryz.func69 (by kernel_rfl) rfl rfl (fun _ _ => ⟨okCs_vs _ xs, trivial⟩) (fun _ _ => Nat.le_refl _) ?_
  have hc := c.toNat_lt
  ((conv => whnf); (repeat ((first | refine BoxN.own ?_ | refine VrN.norm (wrap_i64 (by omega)) ?_ | refine VrN.keep ?_ | refine DrawN.calm (by decide +kernel) ?_ | refine Nd.mk (by decide +kernel) ?_ | refine Nd.mk (by omega) ?_ | (refine Nd.mk ?_ ?_; focus ((repeat' (first | exact trivial | exact wkE_refl _ | refine And.intro ?_ ?_)); done)) | refine RdN.intro _ rfl (by rfl) ?_); (conv => whnf))))
  have key : ∀ z, z = c.toNat → nthC (vs xs) z = some (.v (.bool (p c))) := fun z hz => by rw [hz, nthC_eq, vs_eq, List.getElem?_map, hp c]; rfl
  rw [key _ (by show 0 + Int.toNat (c.toNat : Int) * 1 = _; omega)]
  ((conv => whnf); (repeat ((first | refine BoxN.own ?_ | refine VrN.norm (wrap_i64 (by omega)) ?_ | refine VrN.keep ?_ | refine DrawN.calm (by decide +kernel) ?_ | refine Nd.mk (by decide +kernel) ?_ | refine Nd.mk (by omega) ?_ | (refine Nd.mk ?_ ?_; focus ((repeat' (first | exact trivial | exact wkE_refl _ | refine And.intro ?_ ?_)); done)) | refine RdN.intro _ rfl (by rfl) ?_); (conv => whnf))))
  exact ⟨(), trivial, rfl, wkH_refl _⟩
theorem trimLeftASCII_c (T : TypeId) (xs : List Value) (p : UInt8 → Bool) (hp : TabB xs p) (s : List UInt8) : SpecH Tryz.prog 54 [.c (.v (.string (bs s))), .c (.lp 0 0)] [.blk T (vs xs)]
    (RetG (ι := Unit) (fun _ => True) (fun _ => .string (bs (s.dropWhile p))) fun _ => [.blk T (vs xs)]) := by
  refine ownC hm Tryz.func54 (by kernel_rfl) rfl rfl (fun _ _ => ⟨okCs_vs _ xs, trivial⟩) (fun _ _ => Nat.le_refl _) ?_
  ((conv => whnf); (repeat ((first | refine BoxN.own ?_ | refine VrN.norm (wrap_i64 (by omega)) ?_ | refine VrN.keep ?_ | refine DrawN.calm (by decide +kernel) ?_ | refine Nd.mk (by decide +kernel) ?_ | refine Nd.mk (by omega) ?_ | (refine Nd.mk ?_ ?_; focus ((repeat' (first | exact trivial | exact wkE_refl _ | refine And.intro ?_ ?_)); done)) | refine RdN.intro _ rfl (by rfl) ?_); (conv => whnf))))
  refine LoopN.intro (List UInt8) (fun l => l.dropWhile p = s.dropWhile p) (fun l => mkS Tryz.f54.ntmps 0 [(0, .c (.v (.string (bs l)))), (1, .c (.lp 0 0))]) (fun _ => [.blk T (vs xs)]) (fun l => l.length) [] rfl (fun _ => rfl) (fun _ => rfl) (fun _ _ => ⟨okCs_vs _ xs, trivial⟩) ⟨s, rfl, ?_, wkH_refl _⟩ fun l hl => ?_
  · (repeat' (first | exact trivial | refine And.intro (by with_reducible rfl) ?_ | (with_reducible exact wkC_refl _) | (with_reducible exact wkCs_refl _) | refine And.intro ?_ ?_))
    all_goals rfl
  cases l with
  | nil =>
    ((conv => whnf); (repeat ((first | refine BoxN.own ?_ | refine VrN.norm (wrap_i64 (by omega)) ?_ | refine VrN.keep ?_ | refine DrawN.calm (by decide +kernel) ?_ | refine Nd.mk (by decide +kernel) ?_ | refine Nd.mk (by omega) ?_ | (refine Nd.mk ?_ ?_; focus ((repeat' (first | exact trivial | exact wkE_refl _ | refine And.intro ?_ ?_)); done)) | refine RdN.intro _ rfl (by rfl) ?_); (conv => whnf))))
    exact ⟨(), trivial, by rw [← hl]; rfl, wkH_refl _⟩
  | cons c l =>
    have hb : byteAt (bs (c :: l)) 0 = (c.toNat : Int) := byteAt_get rfl
    ((conv => whnf); (repeat ((first | refine BoxN.own ?_ | refine VrN.norm (wrap_i64 (by omega)) ?_ | refine VrN.keep ?_ | refine DrawN.calm (by decide +kernel) ?_ | refine Nd.mk (by decide +kernel) ?_ | refine Nd.mk (by omega) ?_ | (refine Nd.mk ?_ ?_; focus ((repeat' (first | exact trivial | exact wkE_refl _ | refine And.intro ?_ ?_)); done)) | refine RdN.intro _ rfl (by rfl) ?_); (conv => whnf))))
    rw [bs_size]
    refine brd_dec (fun _ => ?_) (fun h => by simp at h)
    ((conv => whnf); (repeat ((first | refine BoxN.own ?_ | refine VrN.norm (wrap_i64 (by omega)) ?_ | refine VrN.keep ?_ | refine DrawN.calm (by decide +kernel) ?_ | refine Nd.mk (by decide +kernel) ?_ | refine Nd.mk (by omega) ?_ | (refine Nd.mk ?_ ?_; focus ((repeat' (first | exact trivial | exact wkE_refl _ | refine And.intro ?_ ?_)); done)) | refine RdN.intro _ rfl (by rfl) ?_); (conv => whnf))))
    refine Nd.mk ⟨by omega, by rw [bs_size]; simp⟩ ?_
    rw [show ((0 : Int).toNat) = 0 from rfl, hb]
    ((conv => whnf); (repeat ((first | refine BoxN.own ?_ | refine VrN.norm (wrap_i64 (by omega)) ?_ | refine VrN.keep ?_ | refine DrawN.calm (by decide +kernel) ?_ | refine Nd.mk (by decide +kernel) ?_ | refine Nd.mk (by omega) ?_ | (refine Nd.mk ?_ ?_; focus ((repeat' (first | exact trivial | exact wkE_refl _ | refine And.intro ?_ ?_)); done)) | refine RdN.intro _ rfl (by rfl) ?_); (conv => whnf))))
    refine callG (contains_c T xs p hp c) [0] rfl ⟨by show some _ = some (rnE _ _ _); simp [rnE, rnCs_vs], trivial⟩ rfl fun _ _ => ?_
    ((conv => whnf); (repeat ((first | refine BoxN.own ?_ | refine VrN.norm (wrap_i64 (by omega)) ?_ | refine VrN.keep ?_ | refine DrawN.calm (by decide +kernel) ?_ | refine Nd.mk (by decide +kernel) ?_ | refine Nd.mk (by omega) ?_ | (refine Nd.mk ?_ ?_; focus ((repeat' (first | exact trivial | exact wkE_refl _ | refine And.intro ?_ ?_)); done)) | refine RdN.intro _ rfl (by rfl) ?_); (conv => whnf))))
    refine brd_not (brd_intro (fun h => ?_) (fun h => ?_))
    · ((conv => whnf); (repeat ((first | refine BoxN.own ?_ | refine VrN.norm (wrap_i64 (by omega)) ?_ | refine VrN.keep ?_ | refine DrawN.calm (by decide +kernel) ?_ | refine Nd.mk (by decide +kernel) ?_ | refine Nd.mk (by omega) ?_ | (refine Nd.mk ?_ ?_; focus ((repeat' (first | exact trivial | exact wkE_refl _ | refine And.intro ?_ ?_)); done)) | refine RdN.intro _ rfl (by rfl) ?_); (conv => whnf))))
      refine ReadW.sl_l 1 rfl (by kernel_rfl) rfl rfl ⟨rfl, by simp⟩ ?_
      ((conv => whnf); (repeat ((first | refine BoxN.own ?_ | refine VrN.norm (wrap_i64 (by omega)) ?_ | refine VrN.keep ?_ | refine DrawN.calm (by decide +kernel) ?_ | refine Nd.mk (by decide +kernel) ?_ | refine Nd.mk (by omega) ?_ | (refine Nd.mk ?_ ?_; focus ((repeat' (first | exact trivial | exact wkE_refl _ | refine And.intro ?_ ?_)); done)) | refine RdN.intro _ rfl (by rfl) ?_); (conv => whnf))))
      refine ⟨l, by rw [← hl, List.dropWhile_cons_of_pos h], by simp, ?_, wkH_of_eq (by simp [rnE, rnCs_vs])⟩
      (repeat' (first | exact trivial | refine And.intro (by with_reducible rfl) ?_ | (with_reducible exact wkC_refl _) | (with_reducible exact wkCs_refl _) | refine And.intro ?_ ?_))
      rfl
    · ((conv => whnf); (repeat ((first | refine BoxN.own ?_ | refine VrN.norm (wrap_i64 (by omega)) ?_ | refine VrN.keep ?_ | refine DrawN.calm (by decide +kernel) ?_ | refine Nd.mk (by decide +kernel) ?_ | refine Nd.mk (by omega) ?_ | (refine Nd.mk ?_ ?_; focus ((repeat' (first | exact trivial | exact wkE_refl _ | refine And.intro ?_ ?_)); done)) | refine RdN.intro _ rfl (by rfl) ?_); (conv => whnf))))
      exact ⟨(), trivial, by rw [← hl, List.dropWhile_cons_of_neg (by simp [h])], wkH_of_eq (by simp [rnE, rnCs_vs])⟩
def trimE (p : UInt8 → Bool) (s : List UInt8) : List UInt8 := (s.reverse.dropWhile p).reverse
theorem trimE_snoc (p : UInt8 → Bool) (s : List UInt8) (c : UInt8) : trimE p (s ++ [c]) = if p c then trimE p s else s ++ [c] := by
  unfold trimE
  rw [List.reverse_append, List.reverse_singleton, List.singleton_append, List.dropWhile_cons]
  split <;> simp
theorem trimRightASCII_c (T : TypeId) (xs : List Value) (p : UInt8 → Bool) (hp : TabB xs p) (s : List UInt8) (hs : s.length ≤ 1000000000) : SpecH Tryz.prog 55 [.c (.v (.string (bs s))), .c (.lp 0 0)] [.blk T (vs xs)]
    (RetG (ι := Unit) (fun _ => True) (fun _ => .string (bs (trimE p s))) fun _ => [.blk T (vs xs)]) := by
  refine ownC hm Tryz.func55 (by kernel_rfl) rfl rfl (fun _ _ => ⟨okCs_vs _ xs, trivial⟩) (fun _ _ => Nat.le_refl _) ?_
  ((conv => whnf); (repeat ((first | refine BoxN.own ?_ | refine VrN.norm (wrap_i64 (by omega)) ?_ | refine VrN.keep ?_ | refine DrawN.calm (by decide +kernel) ?_ | refine Nd.mk (by decide +kernel) ?_ | refine Nd.mk (by omega) ?_ | (refine Nd.mk ?_ ?_; focus ((repeat' (first | exact trivial | exact wkE_refl _ | refine And.intro ?_ ?_)); done)) | refine RdN.intro _ rfl (by rfl) ?_); (conv => whnf))))
  refine LoopN.intro (List UInt8) (fun l => trimE p l = trimE p s ∧ l.length ≤ 1000000000) (fun l => mkS Tryz.f55.ntmps 0 [(0, .c (.v (.string (bs l)))), (1, .c (.lp 0 0))]) (fun _ => [.blk T (vs xs)]) (fun l => l.length) [] rfl (fun _ => rfl) (fun _ => rfl) (fun _ _ => ⟨okCs_vs _ xs, trivial⟩) ⟨s, ⟨rfl, hs⟩, ?_, wkH_refl _⟩ fun l ⟨hl, hll⟩ => ?_
  · (repeat' (first | exact trivial | refine And.intro (by with_reducible rfl) ?_ | (with_reducible exact wkC_refl _) | (with_reducible exact wkCs_refl _) | refine And.intro ?_ ?_))
    all_goals rfl
  rcases List.eq_nil_or_concat l with rfl | ⟨l, c, rfl⟩
  · ((conv => whnf); (repeat ((first | refine BoxN.own ?_ | refine VrN.norm (wrap_i64 (by omega)) ?_ | refine VrN.keep ?_ | refine DrawN.calm (by decide +kernel) ?_ | refine Nd.mk (by decide +kernel) ?_ | refine Nd.mk (by omega) ?_ | (refine Nd.mk ?_ ?_; focus ((repeat' (first | exact trivial | exact wkE_refl _ | refine And.intro ?_ ?_)); done)) | refine RdN.intro _ rfl (by rfl) ?_); (conv => whnf))))
    exact ⟨(), trivial, by rw [← hl]; rfl, wkH_refl _⟩
  · rw [List.concat_eq_append] at *
    have hb : byteAt (bs (l ++ [c])) l.length = (c.toNat : Int) := byteAt_get (by simp)
    rw [List.length_append] at hll
    rw [trimE_snoc] at hl
    ((conv => whnf); (repeat ((first | refine BoxN.own ?_ | refine VrN.norm (wrap_i64 (by omega)) ?_ | refine VrN.keep ?_ | refine DrawN.calm (by decide +kernel) ?_ | refine Nd.mk (by decide +kernel) ?_ | refine Nd.mk (by omega) ?_ | (refine Nd.mk ?_ ?_; focus ((repeat' (first | exact trivial | exact wkE_refl _ | refine And.intro ?_ ?_)); done)) | refine RdN.intro _ rfl (by rfl) ?_); (conv => whnf))))
    rw [bs_size]
    refine brd_dec (fun _ => ?_) (fun h => by simp at h)
    ((conv => whnf); (repeat ((first | refine BoxN.own ?_ | refine VrN.norm (wrap_i64 (by omega)) ?_ | refine VrN.keep ?_ | refine DrawN.calm (by decide +kernel) ?_ | refine Nd.mk (by decide +kernel) ?_ | refine Nd.mk (by omega) ?_ | (refine Nd.mk ?_ ?_; focus ((repeat' (first | exact trivial | exact wkE_refl _ | refine And.intro ?_ ?_)); done)) | refine RdN.intro _ rfl (by rfl) ?_); (conv => whnf))))
    rw [bs_size]
    have e : IntKind.wrap .i64 (((l ++ [c]).length : Int) - 1) = (l.length : Int) := by rw [wrap_i64 (by simp; simp at hll; omega)]; simp
    rw [e]
    refine Nd.mk ⟨by omega, by simp; omega⟩ ?_
    rw [Int.toNat_natCast, hb]
    ((conv => whnf); (repeat ((first | refine BoxN.own ?_ | refine VrN.norm (wrap_i64 (by omega)) ?_ | refine VrN.keep ?_ | refine DrawN.calm (by decide +kernel) ?_ | refine Nd.mk (by decide +kernel) ?_ | refine Nd.mk (by omega) ?_ | (refine Nd.mk ?_ ?_; focus ((repeat' (first | exact trivial | exact wkE_refl _ | refine And.intro ?_ ?_)); done)) | refine RdN.intro _ rfl (by rfl) ?_); (conv => whnf))))
    refine callG (contains_c T xs p hp c) [0] rfl ⟨by show some _ = some (rnE _ _ _); simp [rnE, rnCs_vs], trivial⟩ rfl fun _ _ => ?_
    ((conv => whnf); (repeat ((first | refine BoxN.own ?_ | refine VrN.norm (wrap_i64 (by omega)) ?_ | refine VrN.keep ?_ | refine DrawN.calm (by decide +kernel) ?_ | refine Nd.mk (by decide +kernel) ?_ | refine Nd.mk (by omega) ?_ | (refine Nd.mk ?_ ?_; focus ((repeat' (first | exact trivial | exact wkE_refl _ | refine And.intro ?_ ?_)); done)) | refine RdN.intro _ rfl (by rfl) ?_); (conv => whnf))))
    refine brd_not (brd_intro (fun h => ?_) (fun h => ?_))
    · ((conv => whnf); (repeat ((first | refine BoxN.own ?_ | refine VrN.norm (wrap_i64 (by omega)) ?_ | refine VrN.keep ?_ | refine DrawN.calm (by decide +kernel) ?_ | refine Nd.mk (by decide +kernel) ?_ | refine Nd.mk (by omega) ?_ | (refine Nd.mk ?_ ?_; focus ((repeat' (first | exact trivial | exact wkE_refl _ | refine And.intro ?_ ?_)); done)) | refine RdN.intro _ rfl (by rfl) ?_); (conv => whnf))))
      refine ReadW.sl_h l.length rfl (by kernel_rfl) rfl rfl ⟨by rw [bs_size]; exact e, by simp⟩ ?_
      ((conv => whnf); (repeat ((first | refine BoxN.own ?_ | refine VrN.norm (wrap_i64 (by omega)) ?_ | refine VrN.keep ?_ | refine DrawN.calm (by decide +kernel) ?_ | refine Nd.mk (by decide +kernel) ?_ | refine Nd.mk (by omega) ?_ | (refine Nd.mk ?_ ?_; focus ((repeat' (first | exact trivial | exact wkE_refl _ | refine And.intro ?_ ?_)); done)) | refine RdN.intro _ rfl (by rfl) ?_); (conv => whnf))))
      refine ⟨l, ⟨by rw [← hl, if_pos h], by simp at hll; omega⟩, by simp, ?_, wkH_of_eq (by simp [rnE, rnCs_vs])⟩
      (repeat' (first | exact trivial | refine And.intro (by with_reducible rfl) ?_ | (with_reducible exact wkC_refl _) | (with_reducible exact wkCs_refl _) | refine And.intro ?_ ?_))
      simp
    · ((conv => whnf); (repeat ((first | refine BoxN.own ?_ | refine VrN.norm (wrap_i64 (by omega)) ?_ | refine VrN.keep ?_ | refine DrawN.calm (by decide +kernel) ?_ | refine Nd.mk (by decide +kernel) ?_ | refine Nd.mk (by omega) ?_ | (refine Nd.mk ?_ ?_; focus ((repeat' (first | exact trivial | exact wkE_refl _ | refine And.intro ?_ ?_)); done)) | refine RdN.intro _ rfl (by rfl) ?_); (conv => whnf))))
      exact ⟨(), trivial, by rw [← hl, if_neg (by simp [h])], wkH_of_eq (by simp [rnE, rnCs_vs])⟩
/-- Blanks. -/
def blankB (c : UInt8) : Bool := c == 32 || c == 9
def blankTab : List Value := (List.range 256).map fun i => .bool (i == 32 || i == 9)
theorem blankTab_ok : TabB blankTab blankB := fun c => by
  have hc := c.toNat_lt
  unfold blankTab blankB
  rw [List.getElem?_map, List.getElem?_range (by omega)]
  simp only [Option.map_some, Option.some.injEq, Value.bool.injEq]
  have h1 : (c.toNat == 32) = (c == 32) := by
    rw [Bool.eq_iff_iff, beq_iff_eq, beq_iff_eq]
    exact ⟨fun h => UInt8.toNat_inj.1 h, fun h => by rw [h]; rfl⟩
  have h2 : (c.toNat == 9) = (c == 9) := by
    rw [Bool.eq_iff_iff, beq_iff_eq, beq_iff_eq]
    exact ⟨fun h => UInt8.toNat_inj.1 h, fun h => by rw [h]; rfl⟩
  rw [h1, h2]
theorem setCells_blank : (Lib.setCells [32, 9]).toList = blankTab := by kernel_rfl
theorem setCells_blank' : Lib.setCells [32, 9] = blankTab.toArray := by apply Array.ext'; rw [setCells_blank]
theorem zero_set : (Tryz.prog.info? 97).map (fun i => i.zero) = some (some (.agg (Array.replicate 256 (.bool false)))) := by kernel_rfl
theorem makeASCIISet_c : ∀ H, SpecH Tryz.prog 53 (pvs [.string (bs [32, 9])]) H (Ret (.tuple #[.agg blankTab.toArray, .bool true]) H) := fun H =>
  SpecH.rawP (R := fun r => r = .tuple #[.agg blankTab.toArray, .bool true]) (callOk Tryz.func53 (by kernel_rfl) rfl)
    (fun w _ => (Tryz.strings_makeASCIISet (fun w => by obtain ⟨i, hi, hz⟩ := Option.map_eq_some_iff.1 zero_set; exact run_zeroValue hi hz w) (bs [32, 9]) w (by decide) (by
      intro j b hj
      rw [bs_list] at hj
      match j, hj with
      | 0, hj => cases hj; decide
      | 1, hj => cases hj; decide)).mono fun e w' ⟨he, hw⟩ => ⟨_, he, by rw [bs_list, setCells_blank'], by subst hw; exact (Below.refl _ w).alloc (Nat.le_refl _) _⟩) fun r hr => by subst hr; exact ⟨rfl, rfl⟩
theorem TrimRight_c (s : List UInt8) (hs : s.length ≤ 1000000000) : ∀ H, SpecH Tryz.prog 83 (pvs [.string (bs s), .string (bs [32, 9])]) H (Ret (.string (bs (trimE blankB s))) H) := by
  refine pureC hm Tryz.func83 (by kernel_rfl) rfl rfl ?_
  ((conv => whnf); (repeat ((first | refine BoxN.own ?_ | refine VrN.norm (wrap_i64 (by omega)) ?_ | refine VrN.keep ?_ | refine DrawN.calm (by decide +kernel) ?_ | refine Nd.mk (by decide +kernel) ?_ | refine Nd.mk (by omega) ?_ | (refine Nd.mk ?_ ?_; focus ((repeat' (first | exact trivial | exact wkE_refl _ | refine And.intro ?_ ?_)); done)) | refine RdN.intro _ rfl (by rfl) ?_); (conv => whnf))))
  rw [bs_list]
  refine brd_intro (fun h => ?_) (fun h => ?_)
  · have : s = [] := by simpa using h
    subst this
    ((conv => whnf); (repeat ((first | refine BoxN.own ?_ | refine VrN.norm (wrap_i64 (by omega)) ?_ | refine VrN.keep ?_ | refine DrawN.calm (by decide +kernel) ?_ | refine Nd.mk (by decide +kernel) ?_ | refine Nd.mk (by omega) ?_ | (refine Nd.mk ?_ ?_; focus ((repeat' (first | exact trivial | exact wkE_refl _ | refine And.intro ?_ ?_)); done)) | refine RdN.intro _ rfl (by rfl) ?_); (conv => whnf))))
    rfl
  · ((conv => whnf); (repeat ((first | refine BoxN.own ?_ | refine VrN.norm (wrap_i64 (by omega)) ?_ | refine VrN.keep ?_ | refine DrawN.calm (by decide +kernel) ?_ | refine Nd.mk (by decide +kernel) ?_ | refine Nd.mk (by omega) ?_ | (refine Nd.mk ?_ ?_; focus ((repeat' (first | exact trivial | exact wkE_refl _ | refine And.intro ?_ ?_)); done)) | refine RdN.intro _ rfl (by rfl) ?_); (conv => whnf))))
    refine call1 (makeASCIISet_c _) ?_
    ((conv => whnf); (repeat ((first | refine BoxN.own ?_ | refine VrN.norm (wrap_i64 (by omega)) ?_ | refine VrN.keep ?_ | refine DrawN.calm (by decide +kernel) ?_ | refine Nd.mk (by decide +kernel) ?_ | refine Nd.mk (by omega) ?_ | (refine Nd.mk ?_ ?_; focus ((repeat' (first | exact trivial | exact wkE_refl _ | refine And.intro ?_ ?_)); done)) | refine RdN.intro _ rfl (by rfl) ?_); (conv => whnf))))
    refine callG (trimRightASCII_c _ blankTab blankB blankTab_ok s hs) [0] rfl ⟨rfl, trivial⟩ rfl fun _ _ => ?_
    ((conv => whnf); (repeat ((first | refine BoxN.own ?_ | refine VrN.norm (wrap_i64 (by omega)) ?_ | refine VrN.keep ?_ | refine DrawN.calm (by decide +kernel) ?_ | refine Nd.mk (by decide +kernel) ?_ | refine Nd.mk (by omega) ?_ | (refine Nd.mk ?_ ?_; focus ((repeat' (first | exact trivial | exact wkE_refl _ | refine And.intro ?_ ?_)); done)) | refine RdN.intro _ rfl (by rfl) ?_); (conv => whnf))))
theorem Trim_c (s : List UInt8) (hs : s.length ≤ 1000000000) : ∀ H, SpecH Tryz.prog 35 (pvs [.string (bs s), .string (bs [32, 9])]) H (Ret (.string (bs ((trimE blankB s).dropWhile blankB))) H) := by
  refine pureC hm Tryz.func35 (by kernel_rfl) rfl rfl ?_
  ((conv => whnf); (repeat ((first | refine BoxN.own ?_ | refine VrN.norm (wrap_i64 (by omega)) ?_ | refine VrN.keep ?_ | refine DrawN.calm (by decide +kernel) ?_ | refine Nd.mk (by decide +kernel) ?_ | refine Nd.mk (by omega) ?_ | (refine Nd.mk ?_ ?_; focus ((repeat' (first | exact trivial | exact wkE_refl _ | refine And.intro ?_ ?_)); done)) | refine RdN.intro _ rfl (by rfl) ?_); (conv => whnf))))
  rw [bs_list]
  refine brd_intro (fun h => ?_) (fun h => ?_)
  · have : s = [] := by simpa using h
    subst this
    ((conv => whnf); (repeat ((first | refine BoxN.own ?_ | refine VrN.norm (wrap_i64 (by omega)) ?_ | refine VrN.keep ?_ | refine DrawN.calm (by decide +kernel) ?_ | refine Nd.mk (by decide +kernel) ?_ | refine Nd.mk (by omega) ?_ | (refine Nd.mk ?_ ?_; focus ((repeat' (first | exact trivial | exact wkE_refl _ | refine And.intro ?_ ?_)); done)) | refine RdN.intro _ rfl (by rfl) ?_); (conv => whnf))))
    rfl
  · ((conv => whnf); (repeat ((first | refine BoxN.own ?_ | refine VrN.norm (wrap_i64 (by omega)) ?_ | refine VrN.keep ?_ | refine DrawN.calm (by decide +kernel) ?_ | refine Nd.mk (by decide +kernel) ?_ | refine Nd.mk (by omega) ?_ | (refine Nd.mk ?_ ?_; focus ((repeat' (first | exact trivial | exact wkE_refl _ | refine And.intro ?_ ?_)); done)) | refine RdN.intro _ rfl (by rfl) ?_); (conv => whnf))))
    refine call1 (makeASCIISet_c _) ?_
    ((conv => whnf); (repeat ((first | refine BoxN.own ?_ | refine VrN.norm (wrap_i64 (by omega)) ?_ | refine VrN.keep ?_ | refine DrawN.calm (by decide +kernel) ?_ | refine Nd.mk (by decide +kernel) ?_ | refine Nd.mk (by omega) ?_ | (refine Nd.mk ?_ ?_; focus ((repeat' (first | exact trivial | exact wkE_refl _ | refine And.intro ?_ ?_)); done)) | refine RdN.intro _ rfl (by rfl) ?_); (conv => whnf))))
    refine callG (trimRightASCII_c _ blankTab blankB blankTab_ok s hs) [0] rfl ⟨rfl, trivial⟩ rfl fun _ _ => ?_
    ((conv => whnf); (repeat ((first | refine BoxN.own ?_ | refine VrN.norm (wrap_i64 (by omega)) ?_ | refine VrN.keep ?_ | refine DrawN.calm (by decide +kernel) ?_ | refine Nd.mk (by decide +kernel) ?_ | refine Nd.mk (by omega) ?_ | (refine Nd.mk ?_ ?_; focus ((repeat' (first | exact trivial | exact wkE_refl _ | refine And.intro ?_ ?_)); done)) | refine RdN.intro _ rfl (by rfl) ?_); (conv => whnf))))
    refine callG (trimLeftASCII_c _ blankTab blankB blankTab_ok (trimE blankB s)) [0] rfl ⟨rfl, trivial⟩ rfl fun _ _ => ?_
    ((conv => whnf); (repeat ((first | refine BoxN.own ?_ | refine VrN.norm (wrap_i64 (by omega)) ?_ | refine VrN.keep ?_ | refine DrawN.calm (by decide +kernel) ?_ | refine Nd.mk (by decide +kernel) ?_ | refine Nd.mk (by omega) ?_ | (refine Nd.mk ?_ ?_; focus ((repeat' (first | exact trivial | exact wkE_refl _ | refine And.intro ?_ ?_)); done)) | refine RdN.intro _ rfl (by rfl) ?_); (conv => whnf))))
end Go.Proofs.YtfcjgklghgpddaaGreatDoor

/-
  Plain Lean: how a template is read (no program in sight).
-/
namespace Go.Erb

abbrev B := List UInt8
structure Part where
  kind : Int
  line : Int
  text : B
deriving DecidableEq, Repr

/-- The line behind a text, from 1. -/
def ln (p : B) : Int := 1 + (p.count 10 : Nat)
/-- Is behind a text the beginning of a line? -/
def bol (p : B) : Bool := match p.getLast? with | none => true | some c => c == 10
def blank (c : UInt8) : Bool := c == 32 || c == 9
/-- The blanks at the end taken away. -/
def trimR (t : B) : B := (t.reverse.dropWhile blank).reverse
/-- The text so far, its blanks taken away if they reach back to the beginning of a line; fp: what stood ahead of it. -/
def trim (t fp : B) : B := if (trimR t).isEmpty && bol fp || (trimR t).getLast? == some 10 then trimR t else t
/-- The text so far becomes a part. -/
def close (t fp : B) (out : List Part) : List Part := if t.isEmpty then out else out ++ [⟨0, ln fp, t⟩]
/-- What begins the text so far, when something is put behind it. -/
def fpOf (t fp pre : B) : B := if t.isEmpty then pre else fp

/-- The inside of a tag, to its end. -/
def tg : Nat → B → B → B → Option (B × B × B)
  | 0, _, _, _ => none
  | _ + 1, _, [], _ => none
  | f + 1, pre, c :: r, acc =>
    if [37, 37, 62].isPrefixOf (c :: r) then tg f (pre ++ (c :: r).take 3) ((c :: r).drop 3) (acc ++ [37, 62])
    else if [45, 37, 62].isPrefixOf (c :: r) then
      if [10].isPrefixOf ((c :: r).drop 3) then some (pre ++ (c :: r).take 4, (c :: r).drop 4, acc) else some (pre ++ (c :: r).take 3, (c :: r).drop 3, acc)
    else if [37, 62].isPrefixOf (c :: r) then some (pre ++ (c :: r).take 2, (c :: r).drop 2, acc)
    else tg f (pre ++ [c]) r (acc ++ [c])

/-- What stands behind '<%': the kind, are blanks taken away, how many bytes more. -/
def opn (r : B) : Int × Bool × Nat :=
  match r.head? with
  | none => (1, false, 0)
  | some c => if c == 45 then (1, true, 1) else if c == 61 then (2, false, 1) else if c == 35 then (3, false, 1) else (1, false, 0)

/-- The rest of a template. -/
def rd (lines : Bool) : Nat → B → B → B → B → List Part → Except Int (List Part)
  | 0, _, _, _, _, _ => .error 0
  | _ + 1, _, [], t, fp, out => .ok (close t fp out)
  | f + 1, pre, c :: r, t, fp, out =>
    if lines && bol pre && [37, 37].isPrefixOf (c :: r) then rd lines f (pre ++ (c :: r).take 2) ((c :: r).drop 2) (t ++ [37]) (fpOf t fp pre) out
    else if lines && bol pre && c == 37 then
      rd lines f (pre ++ (c :: r).take (1 + (r.takeWhile (· != 10)).length + 1)) ((c :: r).drop (1 + (r.takeWhile (· != 10)).length + 1)) [] fp (close t fp out ++ [⟨1, ln pre, r.takeWhile (· != 10)⟩])
    else if [60, 37, 37].isPrefixOf (c :: r) then rd lines f (pre ++ (c :: r).take 3) ((c :: r).drop 3) (t ++ [60, 37]) (fpOf t fp pre) out
    else if [60, 37].isPrefixOf (c :: r) then
      match tg ((c :: r).length + 1) (pre ++ (c :: r).take (2 + (opn ((c :: r).drop 2)).2.2)) ((c :: r).drop (2 + (opn ((c :: r).drop 2)).2.2)) [] with
      | none => .error (ln pre)
      | some (pre', r', code) => rd lines f pre' r' [] fp (close (if (opn ((c :: r).drop 2)).2.1 then trim t fp else t) fp out ++ [⟨(opn ((c :: r).drop 2)).1, ln pre, code⟩])
    else rd lines f (pre ++ [c]) r (t ++ [c]) (fpOf t fp pre) out

def parts (s : B) (lines : Bool) : List Part × Int × Int :=
  if s.length > 50000 then ([], 0, 2)
  else match rd lines (s.length + 1) [] s [] [] [] with
    | .ok l => (l, 0, 0)
    | .error n => ([], n, 14)

end Go.Erb

/-
  Plain Lean: the reader of templates without fuel.
-/
namespace Go.Erb

theorem tg_fuel : ∀ (n f g : Nat) (pre r acc : B), r.length ≤ n → r.length < f → r.length < g → tg f pre r acc = tg g pre r acc
  | _, 0, _, _, _, _, _, h, _ => absurd h (Nat.not_lt_zero _)
  | _, _ + 1, 0, _, _, _, _, _, h => absurd h (Nat.not_lt_zero _)
  | _, _ + 1, _ + 1, _, [], _, _, _, _ => rfl
  | 0, _ + 1, _ + 1, _, _ :: _, _, h, _, _ => by simp at h
  | n + 1, f + 1, g + 1, pre, c :: r, acc, hn, hf, hg => by
    have ih := fun pre' r' acc' (h : r'.length ≤ r.length) => tg_fuel n f g pre' r' acc' (by simp at hn; omega) (by simp at hf; omega) (by simp at hg; omega)
    unfold tg
    rw [ih _ ((c :: r).drop 3) _ (by simp), ih _ r _ (Nat.le_refl _)]
def tgN (pre r acc : B) : Option (B × B × B) := tg (r.length + 1) pre r acc
theorem tgN_cons (pre : B) (c : UInt8) (r acc : B) : tgN pre (c :: r) acc =
    if [37, 37, 62].isPrefixOf (c :: r) then tgN (pre ++ (c :: r).take 3) ((c :: r).drop 3) (acc ++ [37, 62])
    else if [45, 37, 62].isPrefixOf (c :: r) then
      if [10].isPrefixOf ((c :: r).drop 3) then some (pre ++ (c :: r).take 4, (c :: r).drop 4, acc) else some (pre ++ (c :: r).take 3, (c :: r).drop 3, acc)
    else if [37, 62].isPrefixOf (c :: r) then some (pre ++ (c :: r).take 2, (c :: r).drop 2, acc)
    else tgN (pre ++ [c]) r (acc ++ [c]) := by
  have F : ∀ pre' r' acc', r'.length ≤ r.length → tg (c :: r).length pre' r' acc' = tgN pre' r' acc' := fun pre' r' acc' h => tg_fuel _ _ _ _ _ _ (Nat.le_refl _) (by simp; omega) (by omega)
  show tg ((c :: r).length + 1) pre (c :: r) acc = _
  rw [show tg ((c :: r).length + 1) pre (c :: r) acc = _ by unfold tg; rfl]
  rw [F _ ((c :: r).drop 3) _ (by simp), F _ r _ (Nat.le_refl _)]
theorem tg_out : ∀ (f : Nat) (pre r acc p' r' c' : B), tg f pre r acc = some (p', r', c') → r'.length < r.length ∧ ∃ x, r = x ++ r' ∧ p' = pre ++ x
  | 0, _, _, _, _, _, _, h => by simp [tg] at h
  | f + 1, _, [], _, _, _, _, h => by simp [tg] at h
  | f + 1, pre, c :: r, acc, p', r', c', h => by
    unfold tg at h
    split at h
    · obtain ⟨h1, x, h2, h3⟩ := tg_out f _ _ _ _ _ _ h
      refine ⟨by simp at h1 ⊢; omega, (c :: r).take 3 ++ x, ?_, by rw [h3, List.append_assoc]⟩
      rw [List.append_assoc, ← h2, List.take_append_drop]
    split at h
    · split at h
      · cases h
        exact ⟨by simp; omega, (c :: r).take 4, (List.take_append_drop 4 _).symm, rfl⟩
      · cases h
        exact ⟨by simp; omega, (c :: r).take 3, (List.take_append_drop 3 _).symm, rfl⟩
    split at h
    · cases h
      exact ⟨by simp; omega, (c :: r).take 2, (List.take_append_drop 2 _).symm, rfl⟩
    · obtain ⟨h1, x, h2, h3⟩ := tg_out f _ _ _ _ _ _ h
      exact ⟨by simp; omega, c :: x, by rw [h2]; rfl, by rw [h3]; simp⟩
theorem rd_fuel (lines : Bool) : ∀ (n f g : Nat) (pre r t fp : B) (out : List Part), r.length ≤ n → r.length < f → r.length < g → rd lines f pre r t fp out = rd lines g pre r t fp out
  | _, 0, _, _, _, _, _, _, _, h, _ => absurd h (Nat.not_lt_zero _)
  | _, _ + 1, 0, _, _, _, _, _, _, _, h => absurd h (Nat.not_lt_zero _)
  | _, _ + 1, _ + 1, _, [], _, _, _, _, _, _ => rfl
  | 0, _ + 1, _ + 1, _, _ :: _, _, _, _, h, _, _ => by simp at h
  | n + 1, f + 1, g + 1, pre, c :: r, t, fp, out, hn, hf, hg => by
    have ih := fun pre' r' t' fp' out' (h : r'.length ≤ r.length) => rd_fuel lines n f g pre' r' t' fp' out' (by simp at hn; omega) (by simp at hf; omega) (by simp at hg; omega)
    unfold rd
    rw [ih _ ((c :: r).drop 2) _ _ _ (by simp), ih _ ((c :: r).drop 3) _ _ _ (by simp), ih _ r _ _ _ (Nat.le_refl _)]
    rw [ih _ ((c :: r).drop (1 + (r.takeWhile (· != 10)).length + 1)) _ _ _ (by simp)]
    cases ht : tg ((c :: r).length + 1) (pre ++ (c :: r).take (2 + (opn ((c :: r).drop 2)).2.2)) ((c :: r).drop (2 + (opn ((c :: r).drop 2)).2.2)) [] with
    | none => rfl
    | some x =>
      obtain ⟨p', r', c'⟩ := x
      have := (tg_out _ _ _ _ _ _ _ ht).1
      simp only
      rw [ih _ r' _ _ _ (by simp at this; omega)]
def rdN (lines : Bool) (pre r t fp : B) (out : List Part) : Except Int (List Part) := rd lines (r.length + 1) pre r t fp out
theorem rdN_nil (lines : Bool) (pre t fp : B) (out : List Part) : rdN lines pre [] t fp out = .ok (close t fp out) := rfl
theorem rdN_cons (lines : Bool) (pre : B) (c : UInt8) (r t fp : B) (out : List Part) : rdN lines pre (c :: r) t fp out =
    if lines && bol pre && [37, 37].isPrefixOf (c :: r) then rdN lines (pre ++ (c :: r).take 2) ((c :: r).drop 2) (t ++ [37]) (fpOf t fp pre) out
    else if lines && bol pre && c == 37 then
      rdN lines (pre ++ (c :: r).take (1 + (r.takeWhile (· != 10)).length + 1)) ((c :: r).drop (1 + (r.takeWhile (· != 10)).length + 1)) [] fp (close t fp out ++ [⟨1, ln pre, r.takeWhile (· != 10)⟩])
    else if [60, 37, 37].isPrefixOf (c :: r) then rdN lines (pre ++ (c :: r).take 3) ((c :: r).drop 3) (t ++ [60, 37]) (fpOf t fp pre) out
    else if [60, 37].isPrefixOf (c :: r) then
      match tgN (pre ++ (c :: r).take (2 + (opn ((c :: r).drop 2)).2.2)) ((c :: r).drop (2 + (opn ((c :: r).drop 2)).2.2)) [] with
      | none => .error (ln pre)
      | some (pre', r', code) => rdN lines pre' r' [] fp (close (if (opn ((c :: r).drop 2)).2.1 then trim t fp else t) fp out ++ [⟨(opn ((c :: r).drop 2)).1, ln pre, code⟩])
    else rdN lines (pre ++ [c]) r (t ++ [c]) (fpOf t fp pre) out := by
  have F : ∀ pre' r' t' fp' out', r'.length ≤ r.length → rd lines (c :: r).length pre' r' t' fp' out' = rdN lines pre' r' t' fp' out' := fun pre' r' t' fp' out' h => rd_fuel lines _ _ _ _ _ _ _ _ (Nat.le_refl _) (by simp; omega) (by omega)
  show rd lines ((c :: r).length + 1) pre (c :: r) t fp out = _
  rw [show rd lines ((c :: r).length + 1) pre (c :: r) t fp out = _ by unfold rd; rfl]
  rw [F _ ((c :: r).drop 2) _ _ _ (by simp), F _ ((c :: r).drop 3) _ _ _ (by simp), F _ r _ _ _ (Nat.le_refl _), F _ ((c :: r).drop (1 + (r.takeWhile (· != 10)).length + 1)) _ _ _ (by simp)]
  have h0 : tg ((c :: r).length + 1) (pre ++ (c :: r).take (2 + (opn ((c :: r).drop 2)).2.2)) ((c :: r).drop (2 + (opn ((c :: r).drop 2)).2.2)) [] = tgN (pre ++ (c :: r).take (2 + (opn ((c :: r).drop 2)).2.2)) ((c :: r).drop (2 + (opn ((c :: r).drop 2)).2.2)) [] :=
    tg_fuel _ _ _ _ _ _ (Nat.le_refl _) (by simp; omega) (by omega)
  rw [h0]
  cases ht : tgN (pre ++ (c :: r).take (2 + (opn ((c :: r).drop 2)).2.2)) ((c :: r).drop (2 + (opn ((c :: r).drop 2)).2.2)) [] with
  | none => rfl
  | some x =>
    obtain ⟨p', r', c'⟩ := x
    have := (tg_out _ _ _ _ _ _ _ ht).1
    simp only
    rw [F _ r' _ _ _ (by simp at this; omega)]

/-- Escaped. -/
def esc : B → B
  | [] => []
  | c :: r => if [60, 37].isPrefixOf (c :: r) then 60 :: 37 :: 37 :: esc (r.drop 1) else c :: esc r
termination_by s => s.length
end Go.Erb

/-
  Contracts: the program's reader of templates: a byte, a text's end, the beginning of a line, a margin, a line of code.
-/
namespace Go.Proofs.YtfcjgklghgpddaaGreatDoor
open Go.AX Go.RowKit Go.Erb
set_option maxRecDepth 20000

def partC (p : Part) : List Value := [.int .i64 p.kind, .int .i64 p.line, .string (bs p.text)]
def partsC (l : List Part) : List Value := l.flatMap partC
theorem partsC_app (l m : List Part) : partsC (l ++ m) = partsC l ++ partsC m := by simp [partsC]
/-- The program's reader. -/
structure RS where
  s : List UInt8
  at_ : Nat
  line : Int
  lines : Bool
  out : List Part
  plain : List UInt8
  begun : Int
/-- .. where its slices lie. -/
structure MS where
  o : BSt
  p : BSt
def MS.ok (r : RS) (m : MS) : Prop := m.o.ok r.out.length ∧ m.p.ok r.plain.length
def RH (r : RS) (m : MS) : List Ent := [.blk 44 [.v (.string (bs r.s)), .v (.int .i64 (r.at_ : Int)), .v (.int .i64 r.line), .v (.bool r.lines), .v (.slice (at0 m.o.ob) r.out.length m.o.cap), .v (.slice (at0 m.p.ob) r.plain.length m.p.cap), .v (.int .i64 r.begun)],
  .app 40 3 (partsC r.out) (at0 m.o.ob) r.out.length m.o.cap, .app 5 1 (u8s r.plain) (at0 m.p.ob) r.plain.length m.p.cap]
theorem RH_ok (r : RS) (m : MS) : okH (RH r m).length (RH r m) := okHB_eq rfl
/-- The call hands back a value, and leaves the reader as r'. -/
def RetM (r : RS) (v : Value) : Out → List Ent → Prop := RetG (ι := MS) (fun m => m.ok r) (fun _ => v) fun m => RH r m
def unit : Value := .tuple #[]

theorem add_c (r : RS) (m : MS) (c : UInt8) (ok : m.ok r) (hl : -1000000 ≤ r.line ∧ r.line ≤ 1000000) (hp : r.plain.length ≤ 1000000) : SpecH Tryz.prog 31 [.c (.lp 0 0), .c (.v (.int .u8 (c.toNat : Int)))] (RH r m)
    (RetM { r with plain := r.plain ++ [c], begun := if r.plain.isEmpty then r.line else r.begun, line := if c = 10 then r.line + 1 else r.line } unit) := by
  refine ownC hm Tryz.func31 (by kernel_rfl) rfl rfl (fun _ _ => RH_ok _ _) (fun _ _ => Nat.le_refl _) ?_
  obtain ⟨s, at_, line, lines, out, plain, begun⟩ := r
  obtain ⟨⟨ob, oc⟩, ⟨pb, pc⟩⟩ := m
  obtain ⟨h1, h2⟩ := ok
  have hc10 : (c = 10) ↔ (c.toNat : Int) = 10 := ⟨fun h => by rw [h]; rfl, fun h => UInt8.toNat_inj.1 (by show c.toNat = 10; omega)⟩
  have key : ∀ (b' cap' : Nat), plain.length + 1 ≤ cap' → (⟨⟨ob, oc⟩, ⟨some b', cap'⟩⟩ : MS).ok ⟨s, at_, if c = 10 then line + 1 else line, lines, out, plain ++ [c], if plain.isEmpty then line else begun⟩ := fun b' cap' h => ⟨h1, (fun h => by cases h), by simpa using h, fun h2 => by have h2 : cap' = 0 := h2; omega⟩
  ((conv => whnf); (repeat ((first | refine BoxN.own ?_ | refine VrN.norm (wrap_i64 (by omega)) ?_ | refine VrN.keep ?_ | refine DrawN.calm (by decide +kernel) ?_ | refine Nd.mk (by decide +kernel) ?_ | refine Nd.mk (by omega) ?_ | (refine Nd.mk ?_ ?_; focus ((repeat' (first | exact trivial | exact wkE_refl _ | refine And.intro ?_ ?_)); done)) | refine RdN.intro _ rfl (by rfl) ?_); (conv => whnf))))
  refine brd_eq (fun h0 => ?_) (fun h0 => ?_)
  · have he : plain.isEmpty = true := by
      cases plain with
      | nil => rfl
      | cons x l => simp at h0; omega
    ((conv => whnf); (repeat ((first | refine BoxN.own ?_ | refine VrN.norm (wrap_i64 (by omega)) ?_ | refine VrN.keep ?_ | refine DrawN.calm (by decide +kernel) ?_ | refine Nd.mk (by decide +kernel) ?_ | refine Nd.mk (by omega) ?_ | (refine Nd.mk ?_ ?_; focus ((repeat' (first | exact trivial | exact wkE_refl _ | refine And.intro ?_ ?_)); done)) | refine RdN.intro _ rfl (by rfl) ?_); (conv => whnf))))
    refine Nd.mk ⟨by omega, rfl, rfl⟩ ?_
    (conv => whnf)
    refine AppN.grow 2 (u8s plain) _ rfl rfl ⟨by omega, ⟨by show (_ + 1) * 1 ≤ _; have : plain.length ≤ 1000000 := hp; omega, by have : plain.length ≤ 1000000 := hp; omega⟩, by decide⟩ fun b' cap' h3 h4 => ?_
    ((conv => whnf); (repeat ((first | refine BoxN.own ?_ | refine VrN.norm (wrap_i64 (by omega)) ?_ | refine VrN.keep ?_ | refine DrawN.calm (by decide +kernel) ?_ | refine Nd.mk (by decide +kernel) ?_ | refine Nd.mk (by omega) ?_ | (refine Nd.mk ?_ ?_; focus ((repeat' (first | exact trivial | exact wkE_refl _ | refine And.intro ?_ ?_)); done)) | refine RdN.intro _ rfl (by rfl) ?_); (conv => whnf))))
    refine brd_eq (fun h5 => ?_) (fun h5 => ?_)
    · ((conv => whnf); (repeat ((first | refine BoxN.own ?_ | refine VrN.norm (wrap_i64 (by omega)) ?_ | refine VrN.keep ?_ | refine DrawN.calm (by decide +kernel) ?_ | refine Nd.mk (by decide +kernel) ?_ | refine Nd.mk (by omega) ?_ | (refine Nd.mk ?_ ?_; focus ((repeat' (first | exact trivial | exact wkE_refl _ | refine And.intro ?_ ?_)); done)) | refine RdN.intro _ rfl (by rfl) ?_); (conv => whnf))))
      refine ⟨⟨⟨ob, oc⟩, ⟨some b', cap'⟩⟩, key b' cap' h3, rfl, ?_⟩
      have hw : IntKind.wrap .i64 (line + 1) = line + 1 := wrap_i64 (by have : line ≤ 1000000 := hl.2; have : -1000000 ≤ line := hl.1; omega)
      exact wkH_cons (by simp [hw, hc10.2 h5, he, at0]) (wkH_cons rfl (wkH_cons (by simp [u8s, at0]; rfl) (wkH_nil _)))
    · ((conv => whnf); (repeat ((first | refine BoxN.own ?_ | refine VrN.norm (wrap_i64 (by omega)) ?_ | refine VrN.keep ?_ | refine DrawN.calm (by decide +kernel) ?_ | refine Nd.mk (by decide +kernel) ?_ | refine Nd.mk (by omega) ?_ | (refine Nd.mk ?_ ?_; focus ((repeat' (first | exact trivial | exact wkE_refl _ | refine And.intro ?_ ?_)); done)) | refine RdN.intro _ rfl (by rfl) ?_); (conv => whnf))))
      refine ⟨⟨⟨ob, oc⟩, ⟨some b', cap'⟩⟩, key b' cap' h3, rfl, ?_⟩
      exact wkH_cons (by simp [show ¬ c = 10 from fun h => h5 (hc10.1 h), he, at0]) (wkH_cons rfl (wkH_cons (by simp [u8s, at0]; rfl) (wkH_nil _)))
  · have he : plain.isEmpty = false := by cases plain <;> simp_all
    ((conv => whnf); (repeat ((first | refine BoxN.own ?_ | refine VrN.norm (wrap_i64 (by omega)) ?_ | refine VrN.keep ?_ | refine DrawN.calm (by decide +kernel) ?_ | refine Nd.mk (by decide +kernel) ?_ | refine Nd.mk (by omega) ?_ | (refine Nd.mk ?_ ?_; focus ((repeat' (first | exact trivial | exact wkE_refl _ | refine And.intro ?_ ?_)); done)) | refine RdN.intro _ rfl (by rfl) ?_); (conv => whnf))))
    refine Nd.mk ⟨by omega, rfl, rfl⟩ ?_
    (conv => whnf)
    refine AppN.grow 2 (u8s plain) _ rfl rfl ⟨by omega, ⟨by show (_ + 1) * 1 ≤ _; have : plain.length ≤ 1000000 := hp; omega, by have : plain.length ≤ 1000000 := hp; omega⟩, by decide⟩ fun b' cap' h3 h4 => ?_
    ((conv => whnf); (repeat ((first | refine BoxN.own ?_ | refine VrN.norm (wrap_i64 (by omega)) ?_ | refine VrN.keep ?_ | refine DrawN.calm (by decide +kernel) ?_ | refine Nd.mk (by decide +kernel) ?_ | refine Nd.mk (by omega) ?_ | (refine Nd.mk ?_ ?_; focus ((repeat' (first | exact trivial | exact wkE_refl _ | refine And.intro ?_ ?_)); done)) | refine RdN.intro _ rfl (by rfl) ?_); (conv => whnf))))
    refine brd_eq (fun h5 => ?_) (fun h5 => ?_)
    · ((conv => whnf); (repeat ((first | refine BoxN.own ?_ | refine VrN.norm (wrap_i64 (by omega)) ?_ | refine VrN.keep ?_ | refine DrawN.calm (by decide +kernel) ?_ | refine Nd.mk (by decide +kernel) ?_ | refine Nd.mk (by omega) ?_ | (refine Nd.mk ?_ ?_; focus ((repeat' (first | exact trivial | exact wkE_refl _ | refine And.intro ?_ ?_)); done)) | refine RdN.intro _ rfl (by rfl) ?_); (conv => whnf))))
      refine ⟨⟨⟨ob, oc⟩, ⟨some b', cap'⟩⟩, key b' cap' h3, rfl, ?_⟩
      have hw : IntKind.wrap .i64 (line + 1) = line + 1 := wrap_i64 (by have : line ≤ 1000000 := hl.2; have : -1000000 ≤ line := hl.1; omega)
      exact wkH_cons (by simp [hw, hc10.2 h5, he, at0]) (wkH_cons rfl (wkH_cons (by simp [u8s, at0]; rfl) (wkH_nil _)))
    · ((conv => whnf); (repeat ((first | refine BoxN.own ?_ | refine VrN.norm (wrap_i64 (by omega)) ?_ | refine VrN.keep ?_ | refine DrawN.calm (by decide +kernel) ?_ | refine Nd.mk (by decide +kernel) ?_ | refine Nd.mk (by omega) ?_ | (refine Nd.mk ?_ ?_; focus ((repeat' (first | exact trivial | exact wkE_refl _ | refine And.intro ?_ ?_)); done)) | refine RdN.intro _ rfl (by rfl) ?_); (conv => whnf))))
      refine ⟨⟨⟨ob, oc⟩, ⟨some b', cap'⟩⟩, key b' cap' h3, rfl, ?_⟩
      exact wkH_cons (by simp [show ¬ c = 10 from fun h => h5 (hc10.1 h), he, at0]) (wkH_cons rfl (wkH_cons (by simp [u8s, at0]; rfl) (wkH_nil _)))
theorem flush_c (r : RS) (m : MS) (ok : m.ok r) (hp : r.plain.length ≤ 1000000) (ho : r.out.length ≤ 1000000) : SpecH Tryz.prog 33 [.c (.lp 0 0)] (RH r m)
    (RetM { r with plain := [], out := if r.plain.isEmpty then r.out else r.out ++ [⟨0, r.begun, r.plain⟩] } unit) := by
  refine ownC hm Tryz.func33 (by kernel_rfl) rfl rfl (fun _ _ => RH_ok _ _) (fun _ _ => Nat.le_refl _) ?_
  obtain ⟨s, at_, line, lines, out, plain, begun⟩ := r
  obtain ⟨⟨ob, oc⟩, ⟨pb, pc⟩⟩ := m
  obtain ⟨h1, h2⟩ := ok
  have hp : plain.length ≤ 1000000 := hp
  have ho : out.length ≤ 1000000 := ho
  ((conv => whnf); (repeat ((first | refine BoxN.own ?_ | refine VrN.norm (wrap_i64 (by omega)) ?_ | refine VrN.keep ?_ | refine DrawN.calm (by decide +kernel) ?_ | refine Nd.mk (by decide +kernel) ?_ | refine Nd.mk (by omega) ?_ | (refine Nd.mk ?_ ?_; focus ((repeat' (first | exact trivial | exact wkE_refl _ | refine And.intro ?_ ?_)); done)) | refine RdN.intro _ rfl (by rfl) ?_); (conv => whnf))))
  refine brd_dec (fun h0 => ?_) (fun h0 => ?_)
  · have he : plain.isEmpty = false := by cases plain <;> simp_all
    ((conv => whnf); (repeat ((first | refine BoxN.own ?_ | refine VrN.norm (wrap_i64 (by omega)) ?_ | refine VrN.keep ?_ | refine DrawN.calm (by decide +kernel) ?_ | refine Nd.mk (by decide +kernel) ?_ | refine Nd.mk (by omega) ?_ | (refine Nd.mk ?_ ?_; focus ((repeat' (first | exact trivial | exact wkE_refl _ | refine And.intro ?_ ?_)); done)) | refine RdN.intro _ rfl (by rfl) ?_); (conv => whnf))))
    refine DrawN.plan [0, 1, 5, 9] [(2, 1), (3, 1), (4, 1), (6, 1), (7, 1), (8, 1), (10, 1), (11, 1), (12, 1), (13, 1), (14, 1), (15, 0)] [(16, 0), (17, 0), (18, 0), (19, 0)] (by decide +kernel) ?_
    ((conv => whnf); (repeat ((first | refine BoxN.own ?_ | refine VrN.norm (wrap_i64 (by omega)) ?_ | refine VrN.keep ?_ | refine DrawN.calm (by decide +kernel) ?_ | refine Nd.mk (by decide +kernel) ?_ | refine Nd.mk (by omega) ?_ | (refine Nd.mk ?_ ?_; focus ((repeat' (first | exact trivial | exact wkE_refl _ | refine And.intro ?_ ?_)); done)) | refine RdN.intro _ rfl (by rfl) ?_); (conv => whnf))))
    refine ReadW.bytes (e := 5) plain rfl rfl (by kernel_rfl) (by kernel_rfl) (by kernel_rfl) rfl (fun w hw => ?_) ?_
    · have := hw.2.1
      rwa [Nat.mul_one] at this
    ((conv => whnf); (repeat ((first | refine BoxN.own ?_ | refine VrN.norm (wrap_i64 (by omega)) ?_ | refine VrN.keep ?_ | refine DrawN.calm (by decide +kernel) ?_ | refine Nd.mk (by decide +kernel) ?_ | refine Nd.mk (by omega) ?_ | (refine Nd.mk ?_ ?_; focus ((repeat' (first | exact trivial | exact wkE_refl _ | refine And.intro ?_ ?_)); done)) | refine RdN.intro _ rfl (by rfl) ?_); (conv => whnf))))
    refine Nd.mk ⟨by omega, rfl, rfl⟩ ?_
    (conv => whnf)
    refine AppN.grow 1 (partsC out) _ rfl rfl ⟨by omega, ⟨by show (_ + 1) * 32 ≤ _; omega, by omega⟩, by decide⟩ fun b' cap' h3 h4 => ?_
    ((conv => whnf); (repeat ((first | refine BoxN.own ?_ | refine VrN.norm (wrap_i64 (by omega)) ?_ | refine VrN.keep ?_ | refine DrawN.calm (by decide +kernel) ?_ | refine Nd.mk (by decide +kernel) ?_ | refine Nd.mk (by omega) ?_ | (refine Nd.mk ?_ ?_; focus ((repeat' (first | exact trivial | exact wkE_refl _ | refine And.intro ?_ ?_)); done)) | refine RdN.intro _ rfl (by rfl) ?_); (conv => whnf))))
    refine ⟨⟨⟨some b', cap'⟩, ⟨none, 0⟩⟩, ⟨⟨(fun h => by cases h), by simpa [he] using h3, fun h => by have h : cap' = 0 := h; omega⟩, (fun _ => ⟨rfl, rfl⟩), Nat.le_refl _, fun _ => rfl⟩, rfl, ?_⟩
    refine wkH_cons (by simp [he, at0]) (wkH_cons ?_ ⟨wkE_nil, wkH_nil _⟩)
    simp [he, at0, partsC_app]
    exact ⟨rfl, rfl⟩
  · have he : plain = [] := by cases plain <;> simp_all
    subst he
    ((conv => whnf); (repeat ((first | refine BoxN.own ?_ | refine VrN.norm (wrap_i64 (by omega)) ?_ | refine VrN.keep ?_ | refine DrawN.calm (by decide +kernel) ?_ | refine Nd.mk (by decide +kernel) ?_ | refine Nd.mk (by omega) ?_ | (refine Nd.mk ?_ ?_; focus ((repeat' (first | exact trivial | exact wkE_refl _ | refine And.intro ?_ ?_)); done)) | refine RdN.intro _ rfl (by rfl) ?_); (conv => whnf))))
    exact ⟨⟨⟨ob, oc⟩, ⟨pb, pc⟩⟩, ⟨h1, h2⟩, rfl, wkH_refl _⟩
end Go.Proofs.YtfcjgklghgpddaaGreatDoor

/-
  Contracts: the program's reader: the beginning of a line, a margin, a line of code.
-/
namespace Go.Proofs.YtfcjgklghgpddaaGreatDoor
open Go.AX Go.RowKit Go.Erb
set_option maxRecDepth 20000

theorem bol_take {s : List UInt8} {n : Nat} (h0 : n ≠ 0) (hn : n ≤ s.length) {c : UInt8} (hc : s[n - 1]? = some c) : bol (s.take n) = (c == 10) := by
  unfold bol
  have : (s.take n).getLast? = some c := by
    rw [List.getLast?_eq_getElem?, List.length_take, Nat.min_eq_left hn, List.getElem?_take, if_pos (by omega), hc]
  rw [this]
theorem u8_10 (c : UInt8) : ((c.toNat : Int) == 10) = (c == 10) := u8_eq (c := c) (n := 10) (by decide)
theorem starts_c (r : RS) (m : MS) (ok : m.ok r) (ha : r.at_ ≤ r.s.length) (hs : r.s.length ≤ 1000000) : SpecH Tryz.prog 28 [.c (.lp 0 0)] (RH r m) (RetM r (.bool (bol (r.s.take r.at_)))) := by
  refine ownC hm Tryz.func28 (by kernel_rfl) rfl rfl (fun _ _ => RH_ok _ _) (fun _ _ => Nat.le_refl _) ?_
  obtain ⟨s, at_, line, lines, out, plain, begun⟩ := r
  obtain ⟨⟨ob, oc⟩, ⟨pb, pc⟩⟩ := m
  have ha : at_ ≤ s.length := ha
  have hs : s.length ≤ 1000000 := hs
  ((conv => whnf); (repeat ((first | refine BoxN.own ?_ | refine VrN.norm (wrap_i64 (by omega)) ?_ | refine VrN.keep ?_ | refine DrawN.calm (by decide +kernel) ?_ | refine Nd.mk (by decide +kernel) ?_ | refine Nd.mk (by omega) ?_ | (refine Nd.mk ?_ ?_; focus ((repeat' (first | exact trivial | exact wkE_refl _ | refine And.intro ?_ ?_)); done)) | refine RdN.intro _ rfl (by rfl) ?_); (conv => whnf))))
  refine brd_eq (fun h0 => ?_) (fun h0 => ?_)
  · have h0 : at_ = 0 := by have h0 : (at_ : Int) = 0 := h0; omega
    subst h0
    ((conv => whnf); (repeat ((first | refine BoxN.own ?_ | refine VrN.norm (wrap_i64 (by omega)) ?_ | refine VrN.keep ?_ | refine DrawN.calm (by decide +kernel) ?_ | refine Nd.mk (by decide +kernel) ?_ | refine Nd.mk (by omega) ?_ | (refine Nd.mk ?_ ?_; focus ((repeat' (first | exact trivial | exact wkE_refl _ | refine And.intro ?_ ?_)); done)) | refine RdN.intro _ rfl (by rfl) ?_); (conv => whnf))))
    exact ⟨⟨⟨ob, oc⟩, ⟨pb, pc⟩⟩, ok, rfl, wkH_refl _⟩
  · have h0 : at_ ≠ 0 := fun h => h0 (by show (at_ : Int) = 0; omega)
    have hc : ∃ x, s[at_ - 1]? = some x := ⟨_, List.getElem?_eq_getElem (by omega)⟩
    obtain ⟨x, hc⟩ := hc
    have hbx := byteAt_get hc
    have hw : IntKind.wrap .i64 ((at_ : Int) - 1) = ((at_ - 1 : Nat) : Int) := by rw [wrap_i64 (by omega)]; omega
    ((conv => whnf); (repeat ((first | refine BoxN.own ?_ | refine VrN.norm (wrap_i64 (by omega)) ?_ | refine VrN.keep ?_ | refine DrawN.calm (by decide +kernel) ?_ | refine Nd.mk (by decide +kernel) ?_ | refine Nd.mk (by omega) ?_ | (refine Nd.mk ?_ ?_; focus ((repeat' (first | exact trivial | exact wkE_refl _ | refine And.intro ?_ ?_)); done)) | refine RdN.intro _ rfl (by rfl) ?_); (conv => whnf))))
    rw [hw]
    refine Nd.mk ⟨by omega, by rw [bs_size]; show ((at_ - 1 : Nat) : Int) < (s.length : Int); omega⟩ ?_
    rw [Int.toNat_natCast, hbx]
    ((conv => whnf); (repeat ((first | refine BoxN.own ?_ | refine VrN.norm (wrap_i64 (by omega)) ?_ | refine VrN.keep ?_ | refine DrawN.calm (by decide +kernel) ?_ | refine Nd.mk (by decide +kernel) ?_ | refine Nd.mk (by omega) ?_ | (refine Nd.mk ?_ ?_; focus ((repeat' (first | exact trivial | exact wkE_refl _ | refine And.intro ?_ ?_)); done)) | refine RdN.intro _ rfl (by rfl) ?_); (conv => whnf))))
    refine ⟨⟨⟨ob, oc⟩, ⟨pb, pc⟩⟩, ok, ?_, wkH_refl _⟩
    rw [show bol (List.take at_ s) = (x == 10) from bol_take h0 ha hc]
    exact out_bool (u8_10 x)

def allB (l : List UInt8) : Bool := ((trimE blankB l).dropWhile blankB).isEmpty
/-- What stands on the line so far taken away, if it is blanks alone. -/
theorem margin_c (s : List UInt8) (at_ : Nat) (line : Int) (lines : Bool) (out : List Part) (plain : List UInt8) (begun : Int) (m : MS) (f : Nat) (hf : lastAt (s.take at_) 10 at_ + 1 = f) (ok : m.ok ⟨s, at_, line, lines, out, plain, begun⟩) (ha : at_ ≤ s.length) (hs : s.length ≤ 1000000)
    (hb : allB ((s.take at_).drop f) = true → at_ - f ≤ plain.length) (hp : plain.length ≤ 1000000) : SpecH Tryz.prog 49 [.c (.lp 0 0)] (RH ⟨s, at_, line, lines, out, plain, begun⟩ m)
    (RetM ⟨s, at_, line, lines, out, if allB ((s.take at_).drop f) then plain.take (plain.length - (at_ - f)) else plain, begun⟩ unit) := by
  refine ownC hm Tryz.func49 (by kernel_rfl) rfl rfl (fun _ _ => RH_ok _ _) (fun _ _ => Nat.le_refl _) ?_
  obtain ⟨⟨ob, oc⟩, ⟨pb, pc⟩⟩ := m
  obtain ⟨h1, h2⟩ := ok
  have hg := lastAt_ge (s.take at_) 10 at_
  have hw0 : IntKind.wrap .i64 (lastAt (s.take at_) 10 at_ + 1) = (f : Int) := by rw [wrap_i64 (by omega), hf]
  have hL := LastIndexByte_c (s.take at_) 10 (by simp; omega)
  rw [show (s.take at_).length = at_ by simp; omega] at hL
  ((conv => whnf); (repeat ((first | refine BoxN.own ?_ | refine VrN.norm (wrap_i64 (by omega)) ?_ | refine VrN.keep ?_ | refine DrawN.calm (by decide +kernel) ?_ | refine Nd.mk (by decide +kernel) ?_ | refine Nd.mk (by omega) ?_ | (refine Nd.mk ?_ ?_; focus ((repeat' (first | exact trivial | exact wkE_refl _ | refine And.intro ?_ ?_)); done)) | refine RdN.intro _ rfl (by rfl) ?_); (conv => whnf))))
  refine ReadW.sl_h at_ rfl (by kernel_rfl) rfl rfl ⟨rfl, ha⟩ ?_
  ((conv => whnf); (repeat ((first | refine BoxN.own ?_ | refine VrN.norm (wrap_i64 (by omega)) ?_ | refine VrN.keep ?_ | refine DrawN.calm (by decide +kernel) ?_ | refine Nd.mk (by decide +kernel) ?_ | refine Nd.mk (by omega) ?_ | (refine Nd.mk ?_ ?_; focus ((repeat' (first | exact trivial | exact wkE_refl _ | refine And.intro ?_ ?_)); done)) | refine RdN.intro _ rfl (by rfl) ?_); (conv => whnf)))); refine callQ (hL _) ?_
  ((conv => whnf); (repeat ((first | refine VrN.keep ?_ | refine BoxN.own ?_); (conv => whnf))))
  rw [hw0]
  ((conv => whnf); (repeat ((first | refine BoxN.own ?_ | refine VrN.norm (wrap_i64 (by omega)) ?_ | refine VrN.keep ?_ | refine DrawN.calm (by decide +kernel) ?_ | refine Nd.mk (by decide +kernel) ?_ | refine Nd.mk (by omega) ?_ | (refine Nd.mk ?_ ?_; focus ((repeat' (first | exact trivial | exact wkE_refl _ | refine And.intro ?_ ?_)); done)) | refine RdN.intro _ rfl (by rfl) ?_); (conv => whnf))))
  refine ReadW.sl_lh f at_ rfl (by kernel_rfl) rfl rfl rfl ⟨rfl, rfl, by omega, ha⟩ ?_
  ((conv => whnf); (repeat ((first | refine BoxN.own ?_ | refine VrN.norm (wrap_i64 (by omega)) ?_ | refine VrN.keep ?_ | refine DrawN.calm (by decide +kernel) ?_ | refine Nd.mk (by decide +kernel) ?_ | refine Nd.mk (by omega) ?_ | (refine Nd.mk ?_ ?_; focus ((repeat' (first | exact trivial | exact wkE_refl _ | refine And.intro ?_ ?_)); done)) | refine RdN.intro _ rfl (by rfl) ?_); (conv => whnf)))); refine callQ (Trim_c ((s.take at_).drop f) (by simp; omega) _) ?_
  ((conv => whnf); (repeat ((first | refine BoxN.own ?_ | refine VrN.norm (wrap_i64 (by omega)) ?_ | refine VrN.keep ?_ | refine DrawN.calm (by decide +kernel) ?_ | refine Nd.mk (by decide +kernel) ?_ | refine Nd.mk (by omega) ?_ | (refine Nd.mk ?_ ?_; focus ((repeat' (first | exact trivial | exact wkE_refl _ | refine And.intro ?_ ?_)); done)) | refine RdN.intro _ rfl (by rfl) ?_); (conv => whnf))))
  rw [bs_list]
  refine brd_intro (fun h => ?_) (fun h => ?_)
  · have hA : allB ((s.take at_).drop f) = true := by unfold allB; simpa using h
    have hle := hb hA
    have hw : IntKind.wrap .i64 ((plain.length : Int) - IntKind.wrap .i64 ((at_ : Int) - (f : Int))) = ((plain.length - (at_ - f) : Nat) : Int) := by
      rw [wrap_i64 (x := (at_ : Int) - (f : Int)) (by omega), wrap_i64 (by omega)]
      omega
    obtain ⟨h3, h4, h5⟩ := h2
    have hpc : plain.length ≤ pc := h4
    ((conv => whnf); (repeat ((first | refine BoxN.own ?_ | refine VrN.norm (wrap_i64 (by omega)) ?_ | refine VrN.keep ?_ | refine DrawN.calm (by decide +kernel) ?_ | refine Nd.mk (by decide +kernel) ?_ | refine Nd.mk (by omega) ?_ | (refine Nd.mk ?_ ?_; focus ((repeat' (first | exact trivial | exact wkE_refl _ | refine And.intro ?_ ?_)); done)) | refine RdN.intro _ rfl (by rfl) ?_); (conv => whnf))))
    refine DrawN.plan [0, 1, 5, 10, 14] [(2, 1), (3, 1), (4, 1), (6, 1), (7, 1), (8, 1), (9, 1), (11, 1), (12, 1), (13, 1), (15, 1), (16, 1), (17, 1), (18, 1), (19, 1)] [(20, 0)] (by decide +kernel) ?_
    ((conv => whnf); (repeat ((first | refine BoxN.own ?_ | refine VrN.norm (wrap_i64 (by omega)) ?_ | refine VrN.keep ?_ | refine DrawN.calm (by decide +kernel) ?_ | refine Nd.mk (by decide +kernel) ?_ | refine Nd.mk (by omega) ?_ | (refine Nd.mk ?_ ?_; focus ((repeat' (first | exact trivial | exact wkE_refl _ | refine And.intro ?_ ?_)); done)) | refine RdN.intro _ rfl (by rfl) ?_); (conv => whnf))))
    refine ReadW.slc_h (ob := pb) (cap := pc) (j := ((plain.length - (at_ - f) : Nat) : Int)) rfl (by kernel_rfl) rfl (av_int hw) ⟨by omega, by omega⟩ ?_
    rw [Int.toNat_natCast]
    ((conv => whnf); (repeat ((first | refine BoxN.own ?_ | refine VrN.norm (wrap_i64 (by omega)) ?_ | refine VrN.keep ?_ | refine DrawN.calm (by decide +kernel) ?_ | refine Nd.mk (by decide +kernel) ?_ | refine Nd.mk (by omega) ?_ | (refine Nd.mk ?_ ?_; focus ((repeat' (first | exact trivial | exact wkE_refl _ | refine And.intro ?_ ?_)); done)) | refine RdN.intro _ rfl (by rfl) ?_); (conv => whnf))))
    refine ⟨⟨⟨ob, oc⟩, ⟨pb, pc⟩⟩, ⟨h1, ?_⟩, rfl, ?_⟩
    · rw [if_pos hA]
      refine ⟨fun h => ?_, ?_, h5⟩
      · have := h3 h
        exact ⟨by simp; have := this.1; simp at this; simp [this], this.2⟩
      · show (plain.take _).length ≤ pc
        simp
        omega
    · rw [if_pos hA]
      have hl : (plain.take (plain.length - (at_ - f))).length = plain.length - (at_ - f) := by simp
      exact wkH_cons (by simp) (wkH_cons rfl ⟨by
        show wkE (.app _ 1 (u8s plain) _ _ _) (.app _ 1 (u8s (plain.take _)) _ _ _)
        rw [hl]
        exact wkE_cut (by show _ ≤ plain.length; omega) (by simp [u8s, List.map_take]), wkH_nil _⟩)
  · have hA : allB ((s.take at_).drop f) = false := by unfold allB; simpa using h
    ((conv => whnf); (repeat ((first | refine BoxN.own ?_ | refine VrN.norm (wrap_i64 (by omega)) ?_ | refine VrN.keep ?_ | refine DrawN.calm (by decide +kernel) ?_ | refine Nd.mk (by decide +kernel) ?_ | refine Nd.mk (by omega) ?_ | (refine Nd.mk ?_ ?_; focus ((repeat' (first | exact trivial | exact wkE_refl _ | refine And.intro ?_ ?_)); done)) | refine RdN.intro _ rfl (by rfl) ?_); (conv => whnf))))
    rw [hA]
    exact ⟨⟨⟨ob, oc⟩, ⟨pb, pc⟩⟩, ⟨h1, h2⟩, rfl, wkH_refl _⟩
end Go.Proofs.YtfcjgklghgpddaaGreatDoor
