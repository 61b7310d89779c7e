/-
  Contracts: functions of package strings that only read (by the shelf); Builder's Grow; Replace.
-/
import Derived.Test.YtfcjgklghgpddaaDoorLB1
import Derived.Test.YtfcjgklghgpddaaDoorT1
import Derived.Test.YtfcjgklghgpddaaDoorAx23
import Derived.Lib.CutLaws
import Derived.Lib.ReplaceLaws
namespace Go.Proofs.YtfcjgklghgpddaaDoor
open Go.AX Go.RowKit
set_option maxRecDepth 20000

/-- A variable of the library holds some number. -/
def MaxF (w : World) : Prop := ∃ m, w.cell? ⟨0, 0, none⟩ = some (.int .i64 m)

theorem HasPrefix_c (s p : List UInt8) : ∀ H, SpecH Tryd.prog 23 (pvs [.string (bs s), .string (bs p)]) H (Ret (.bool (p.isPrefixOf s)) H) := fun H =>
  SpecH.rawP (R := fun r => r = .bool (p.isPrefixOf s)) (callOk Tryd.func23 (by kernel_rfl) rfl)
    (fun w _ => (Tryd.strings_HasPrefix (bs s) (bs p) w).mono fun e w' ⟨he, hw⟩ => ⟨_, he, by rw [bs_list, bs_list]; rfl, by subst hw; exact Below.refl _ _⟩) fun r hr => by subst hr; exact ⟨rfl, rfl⟩
theorem HasSuffix_c (s p : List UInt8) (hs : s.length ≤ 9223372036854775807) : ∀ H, SpecH Tryd.prog 30 (pvs [.string (bs s), .string (bs p)]) H (Ret (.bool (p.isSuffixOf s)) H) := fun H =>
  SpecH.rawP (R := fun r => r = .bool (p.isSuffixOf s)) (callOk Tryd.func30 (by kernel_rfl) rfl)
    (fun w _ => (Tryd.strings_HasSuffix (bs s) (bs p) w (by rw [bs_size]; exact hs)).mono fun e w' ⟨he, hw⟩ => ⟨_, he, by rw [bs_list, bs_list]; rfl, by subst hw; exact Below.refl _ _⟩) fun r hr => by subst hr; exact ⟨rfl, rfl⟩
theorem IndexByte_c (s : List UInt8) (c : UInt8) : ∀ H, SpecH Tryd.prog 31 (pvs [.string (bs s), .int .u8 (c.toNat : Int)]) H (Ret (.int .i64 (Lib.indexByte s c)) H) := fun H =>
  SpecH.rawP (R := fun r => r = .int .i64 (Lib.indexByte s c)) (callOk Tryd.func31 (by kernel_rfl) rfl)
    (fun w _ => (Tryd.strings_IndexByte (bs s) (c.toNat : Int) w).mono fun e w' ⟨he, hw⟩ => ⟨_, he, by rw [bs_list]; simp, by subst hw; exact Below.refl _ _⟩) fun r hr => by subst hr; exact ⟨rfl, rfl⟩
theorem Count1_c (s : List UInt8) (c : UInt8) : ∀ H, SpecH Tryd.prog 39 (pvs [.string (bs s), .string (bs [c])]) H (Ret (.int .i64 (s.count c : Nat)) H) := fun H =>
  SpecH.rawP (R := fun r => r = .int .i64 (s.count c : Nat)) (callOk Tryd.func39 (by kernel_rfl) rfl)
    (fun w _ => (Tryd.strings_Count_one (bs s) c w).mono fun e w' ⟨he, hw⟩ => ⟨_, he, by rw [bs_list]; rfl, by subst hw; exact Below.refl _ _⟩) fun r hr => by subst hr; exact ⟨rfl, rfl⟩
theorem Count2_c (s p : List UInt8) (h2 : 2 ≤ p.length) (hs : s.length < 4294967281) : ∀ H, (∀ w, Facts H w → MaxF w) → SpecH Tryd.prog 39 (pvs [.string (bs s), .string (bs p)]) H (Ret (.int .i64 (Lib.count s p : Nat)) H) := fun H hF =>
  SpecH.rawP (R := fun r => r = .int .i64 (Lib.count s p : Nat)) (callOk Tryd.func39 (by kernel_rfl) rfl)
    (fun w hw => by
      obtain ⟨m, hm⟩ := hF w hw
      exact (Tryd.strings_Count (bs s) (bs p) m w (by rw [bs_size]; exact hs) hm (by rw [bs_size]; exact h2)).mono fun e w' ⟨he, hw⟩ => ⟨_, he, by rw [Lib.countB, bs_list, bs_list], by subst hw; exact Below.refl _ _⟩) fun r hr => by subst hr; exact ⟨rfl, rfl⟩
theorem Index_c (s p : List UInt8) (hs : s.length < 4294967281) : ∀ H, (∀ w, Facts H w → MaxF w) → SpecH Tryd.prog 41 (pvs [.string (bs s), .string (bs p)]) H (Ret (.int .i64 (Lib.index s p)) H) := fun H hF =>
  SpecH.rawP (R := fun r => r = .int .i64 (Lib.index s p)) (callOk Tryd.func41 (by kernel_rfl) rfl)
    (fun w hw => by
      obtain ⟨m, hm⟩ := hF w hw
      exact (Tryd.strings_Index (bs s) (bs p) m w (by rw [bs_size]; exact hs) hm).mono fun e w' ⟨he, hw⟩ => ⟨_, he, by rw [bs_list, bs_list], by subst hw; exact Below.refl _ _⟩) fun r hr => by subst hr; exact ⟨rfl, rfl⟩
theorem Cut_c (s p : List UInt8) (hs : s.length < 4294967281) : ∀ H, (∀ w, Facts H w → MaxF w) → SpecH Tryd.prog 44 (pvs [.string (bs s), .string (bs p)]) H (Ret (.tuple #[.string (bs (Lib.cut s p).1), .string (bs (Lib.cut s p).2.1), .bool (Lib.cut s p).2.2]) H) := fun H hF =>
  SpecH.rawP (R := fun r => r = .tuple #[.string (bs (Lib.cut s p).1), .string (bs (Lib.cut s p).2.1), .bool (Lib.cut s p).2.2]) (callOk Tryd.func44 (by kernel_rfl) rfl)
    (fun w hw => by
      obtain ⟨m, hm⟩ := hF w hw
      exact (Tryd.strings_Cut (bs s) (bs p) m w (by rw [bs_size]; exact hs) hm).mono fun e w' ⟨he, hw⟩ => ⟨_, he, by rw [bs_list, bs_list]; rfl, by obtain ⟨n, rfl⟩ := hw; exact ⟨rfl, rfl, rfl, Nat.le_refl _, fun _ _ => rfl⟩⟩) fun r hr => by subst hr; exact ⟨rfl, rfl⟩

/-! ### Builder's Grow, where nothing is written yet -/
theorem grow_c (n : Nat) (h0 : 1 ≤ n) (hn : n ≤ 140737488355328) : SpecH Tryd.prog 53 [.c (.lp 0 0), .c (.v (.int .i64 (n : Int)))] (bH true [] none 0)
    (RetG (ι := BSt) (fun i => i.ok 0) (fun _ => .tuple #[]) fun i => bH true [] i.ob i.cap) := by
  refine ownC hm Tryd.func53 (by kernel_rfl) rfl rfl (fun _ _ => bH_ok _ _ _ _) (fun _ _ => Nat.le_refl _) ?_
  ((conv => whnf); (repeat ((first | refine VrN.norm (wrap_i64 (by omega)) ?_ | refine VrN.keep ?_ | refine DrawN.calm (by decide +kernel) ?_ | refine Nd.mk (by decide +kernel) ?_ | refine Nd.mk (by omega) ?_ | (refine Nd.mk ?_ ?_; focus ((repeat' (first | exact trivial | exact wkE_refl _ | refine And.intro ?_ ?_)); done)) | refine RdN.intro _ rfl (by rfl) ?_); (conv => whnf))))
  refine DrawN.plan [0, 6, 9] [(1, 1), (2, 1), (3, 1), (4, 1), (5, 1), (7, 1), (10, 1), (11, 1), (12, 1), (13, 1), (8, 0), (14, 1), (15, 1)] [] (by decide +kernel) ?_
  ((conv => whnf); (repeat ((first | refine VrN.norm (wrap_i64 (by omega)) ?_ | refine VrN.keep ?_ | refine DrawN.calm (by decide +kernel) ?_ | refine Nd.mk (by decide +kernel) ?_ | refine Nd.mk (by omega) ?_ | (refine Nd.mk ?_ ?_; focus ((repeat' (first | exact trivial | exact wkE_refl _ | refine And.intro ?_ ?_)); done)) | refine RdN.intro _ rfl (by rfl) ?_); (conv => whnf))))
  refine EffW.noZero 1 (n := n) (ps := #[3]) (t := 42) (e := 5) rfl Tryd.func62 (by kernel_rfl) (by kernel_rfl) (by kernel_rfl) (by kernel_rfl) (by kernel_rfl) rfl (av_int (by have e : IntKind.wrap .i64 (2 * ((0 : Nat) : Int)) = 0 := wrap_i64 (by omega); rw [e, wrap_i64 (by omega)]; omega)) hn rfl fun b cap xs h1 h2 => ?_
  ((conv => whnf); (repeat ((first | refine VrN.norm (wrap_i64 (by omega)) ?_ | refine VrN.keep ?_ | refine DrawN.calm (by decide +kernel) ?_ | refine Nd.mk (by decide +kernel) ?_ | refine Nd.mk (by omega) ?_ | (refine Nd.mk ?_ ?_; focus ((repeat' (first | exact trivial | exact wkE_refl _ | refine And.intro ?_ ?_)); done)) | refine RdN.intro _ rfl (by rfl) ?_); (conv => whnf))))
  refine Nd.mk ⟨wkE_refl _, wkE_nil, trivial⟩ ?_
  ((conv => whnf); (repeat ((first | refine VrN.norm (wrap_i64 (by omega)) ?_ | refine VrN.keep ?_ | refine DrawN.calm (by decide +kernel) ?_ | refine Nd.mk (by decide +kernel) ?_ | refine Nd.mk (by omega) ?_ | (refine Nd.mk ?_ ?_; focus ((repeat' (first | exact trivial | exact wkE_refl _ | refine And.intro ?_ ?_)); done)) | refine RdN.intro _ rfl (by rfl) ?_); (conv => whnf))))
  refine ReadW.slc_h (ob := some b) rfl (by kernel_rfl) rfl rfl ⟨by simp, by simp⟩ ?_
  ((conv => whnf); (repeat ((first | refine VrN.norm (wrap_i64 (by omega)) ?_ | refine VrN.keep ?_ | refine DrawN.calm (by decide +kernel) ?_ | refine Nd.mk (by decide +kernel) ?_ | refine Nd.mk (by omega) ?_ | (refine Nd.mk ?_ ?_; focus ((repeat' (first | exact trivial | exact wkE_refl _ | refine And.intro ?_ ?_)); done)) | refine RdN.intro _ rfl (by rfl) ?_); (conv => whnf))))
  refine EffW.copy0 (e := 5) rfl rfl rfl (by kernel_rfl) (by kernel_rfl) rfl rfl ?_
  ((conv => whnf); (repeat ((first | refine VrN.norm (wrap_i64 (by omega)) ?_ | refine VrN.keep ?_ | refine DrawN.calm (by decide +kernel) ?_ | refine Nd.mk (by decide +kernel) ?_ | refine Nd.mk (by omega) ?_ | (refine Nd.mk ?_ ?_; focus ((repeat' (first | exact trivial | exact wkE_refl _ | refine And.intro ?_ ?_)); done)) | refine RdN.intro _ rfl (by rfl) ?_); (conv => whnf))))
  exact ⟨⟨some b, cap⟩, ⟨(fun h => by cases h), Nat.zero_le _, fun h => by have h : cap = 0 := h; omega⟩, rfl, wkE_refl _, wkE_cut (Nat.zero_le _) (by simp [u8s]), trivial⟩
theorem Grow_c (n : Nat) (hn : n ≤ 140737488355328) : SpecH Tryd.prog 40 [.c (.lp 0 0), .c (.v (.int .i64 (n : Int)))] (bH false [] none 0)
    (RetG (ι := BSt) (fun i => i.ok 0) (fun _ => .tuple #[]) fun i => bH true [] i.ob i.cap) := by
  refine ownC hm Tryd.func40 (by kernel_rfl) rfl rfl (fun _ _ => bH_ok _ _ _ _) (fun _ _ => Nat.le_refl _) ?_
  ((conv => whnf); (repeat ((first | refine VrN.norm (wrap_i64 (by omega)) ?_ | refine VrN.keep ?_ | refine DrawN.calm (by decide +kernel) ?_ | refine Nd.mk (by decide +kernel) ?_ | refine Nd.mk (by omega) ?_ | (refine Nd.mk ?_ ?_; focus ((repeat' (first | exact trivial | exact wkE_refl _ | refine And.intro ?_ ?_)); done)) | refine RdN.intro _ rfl (by rfl) ?_); (conv => whnf))))
  refine callG (copyCheck_c false [] none 0) [0, 1] rfl ⟨rfl, rfl, trivial⟩ rfl fun _ _ => ?_
  ((conv => whnf); (repeat ((first | refine VrN.norm (wrap_i64 (by omega)) ?_ | refine VrN.keep ?_ | refine DrawN.calm (by decide +kernel) ?_ | refine Nd.mk (by decide +kernel) ?_ | refine Nd.mk (by omega) ?_ | (refine Nd.mk ?_ ?_; focus ((repeat' (first | exact trivial | exact wkE_refl _ | refine And.intro ?_ ?_)); done)) | refine RdN.intro _ rfl (by rfl) ?_); (conv => whnf))))
  have e : IntKind.wrap .i64 (((0 : Nat) : Int) - ((([] : List UInt8).length : Nat) : Int)) = 0 := wrap_i64 (by simp)
  rw [e]
  refine brd_dec (fun h => ?_) (fun h => ?_)
  · ((conv => whnf); (repeat ((first | refine VrN.norm (wrap_i64 (by omega)) ?_ | refine VrN.keep ?_ | refine DrawN.calm (by decide +kernel) ?_ | refine Nd.mk (by decide +kernel) ?_ | refine Nd.mk (by omega) ?_ | (refine Nd.mk ?_ ?_; focus ((repeat' (first | exact trivial | exact wkE_refl _ | refine And.intro ?_ ?_)); done)) | refine RdN.intro _ rfl (by rfl) ?_); (conv => whnf))))
    refine callG (grow_c n (by omega) hn) [0, 1] rfl ⟨rfl, rfl, trivial⟩ rfl fun i hi => ?_
    ((conv => whnf); (repeat ((first | refine VrN.norm (wrap_i64 (by omega)) ?_ | refine VrN.keep ?_ | refine DrawN.calm (by decide +kernel) ?_ | refine Nd.mk (by decide +kernel) ?_ | refine Nd.mk (by omega) ?_ | (refine Nd.mk ?_ ?_; focus ((repeat' (first | exact trivial | exact wkE_refl _ | refine And.intro ?_ ?_)); done)) | refine RdN.intro _ rfl (by rfl) ?_); (conv => whnf))))
    exact ⟨i, hi, rfl, wkH_of_eq (by simp [bH, bC, rnE, rnC, rnCs, rnI])⟩
  · ((conv => whnf); (repeat ((first | refine VrN.norm (wrap_i64 (by omega)) ?_ | refine VrN.keep ?_ | refine DrawN.calm (by decide +kernel) ?_ | refine Nd.mk (by decide +kernel) ?_ | refine Nd.mk (by omega) ?_ | (refine Nd.mk ?_ ?_; focus ((repeat' (first | exact trivial | exact wkE_refl _ | refine And.intro ?_ ?_)); done)) | refine RdN.intro _ rfl (by rfl) ?_); (conv => whnf))))
    exact ⟨⟨none, 0⟩, ⟨(fun _ => ⟨rfl, rfl⟩), Nat.le_refl _, fun _ => rfl⟩, rfl, wkH_of_eq (by simp [bH, bC, rnE, rnC, rnCs, rnI])⟩

/-! ### Replace -/
theorem bs_inj {a b : List UInt8} (h : bs a = bs b) : a = b := by
  have := congrArg (fun x => x.data.toList) h
  rwa [bs_list, bs_list] at this
theorem count_mul (old : List UInt8) (h1 : 1 ≤ old.length) (s : List UInt8) : Lib.count s old * old.length ≤ s.length := by
  have h := Lib.countB_mul_le (bs old) (by rw [bs_size]; exact h1) (bs s).size (bs s) (Nat.le_refl _)
  rw [Lib.countB, bs_list, bs_list, bs_size, bs_size] at h
  exact h
theorem replaceK_len (old new : List UInt8) (h1 : 1 ≤ old.length) : ∀ (k : Nat) (s : List UInt8), (Lib.replaceK old new k s).length ≤ s.length + k * new.length
  | 0, s => by simp [Lib.replaceK]
  | k + 1, s => by
    unfold Lib.replaceK
    split
    · rw [Nat.add_mul]; omega
    · have ih := replaceK_len old new h1 k (s.drop ((Lib.index s old).toNat + old.length))
      have hr := Lib.index_ge s old
      rename_i hm
      have h2 := Lib.index_room s old (by
        have : Lib.index s old ≠ -1 := fun e => hm (by simp [e])
        omega)
      simp only [List.length_append, List.length_take, List.length_drop] at ih ⊢
      rw [Nat.add_mul, Nat.one_mul]
      omega
/-- How far the loop has come: what is left is replaced as all would be. -/
structure RpOk (s old new : List UInt8) (k : Nat) (i : Nat) (out : List UInt8) (st : Nat) : Prop where
  le : i ≤ k
  hst : st ≤ s.length
  cnt : k - i ≤ Lib.count (s.drop st) old
  eq : out ++ Lib.replaceK old new (k - i) (s.drop st) = Lib.replaceK old new k s
  len : out.length ≤ st + i * new.length
theorem RpOk.step {s old new : List UInt8} {k i : Nat} {out : List UInt8} {st : Nat} (h1 : 1 ≤ old.length) (h : RpOk s old new k i out st) (hi : i < k) :
    ∃ x : Nat, Lib.index (s.drop st) old = x ∧ st + x + old.length ≤ s.length ∧ RpOk s old new k (i + 1) (out ++ (s.take (st + x)).drop st ++ new) (st + x + old.length) := by
  obtain ⟨x, hx⟩ := Lib.index_of_count (s := s.drop st) (old := old) (by have := h.cnt; omega)
  have hroom := Lib.index_room (s.drop st) old (by omega)
  rw [hx, List.length_drop] at hroom
  have hst := h.hst
  have hd : (s.drop st).drop (x + old.length) = s.drop (st + x + old.length) := by rw [List.drop_drop]; congr 1; omega
  have ht : (s.drop st).take x = (s.take (st + x)).drop st := by rw [List.drop_take]; congr 1; omega
  refine ⟨x, hx, by omega, by omega, by omega, ?_, ?_, ?_⟩
  · have := Lib.count_hit (s := s.drop st) (sub := old) (i := x) (fun e => by rw [e] at h1; simp at h1) hx
    rw [hd] at this
    have := h.cnt
    omega
  · have h2 := h.eq
    rw [show k - i = (k - (i + 1)) + 1 by omega, Lib.replaceK_hit old new _ _ x hx, hd, ht] at h2
    rw [← h2]
    simp
  · have := h.len
    simp only [List.length_append, List.length_drop, List.length_take, Nat.add_mul]
    omega
def rpl (old new s : List UInt8) : List UInt8 := Lib.replaceK old new (Lib.count s old) s
theorem rpl_len (old new s : List UInt8) (h1 : 1 ≤ old.length) : (rpl old new s).length ≤ s.length + s.length * new.length := by
  have h2 := replaceK_len old new h1 (Lib.count s old) s
  have h3 := count_mul old h1 s
  have h4 : Lib.count s old ≤ s.length := Nat.le_trans (Nat.le_mul_of_pos_right _ h1) h3
  have h5 : Lib.count s old * new.length ≤ s.length * new.length := Nat.mul_le_mul_right _ h4
  unfold rpl
  omega
theorem Replace_c (old new s : List UInt8) (h1 : 1 ≤ old.length) (hl : old.length ≤ 100) (hn : new.length ≤ 100) (hne : old ≠ new) (hc : ∀ H, (∀ w, Facts H w → MaxF w) → SpecH Tryd.prog 39 (pvs [.string (bs s), .string (bs old)]) H (Ret (.int .i64 (Lib.count s old : Nat)) H)) (hs : s.length ≤ 1000000) : ∀ H, (∀ w, Facts H w → MaxF w) →
    SpecH Tryd.prog 21 (pvs [.string (bs s), .string (bs old), .string (bs new), .int .i64 (-1)]) H (Ret (.string (bs (rpl old new s))) H) := by
  refine factC hm Tryd.func21 (by kernel_rfl) rfl rfl ?_
  have hcm := count_mul old h1 s
  have hk : Lib.count s old ≤ s.length := Nat.le_trans (Nat.le_mul_of_pos_right _ h1) hcm
  have hkn : Lib.count s old * new.length ≤ 1000000 * 100 := Nat.mul_le_mul (by omega) hn
  have hlt := rpl_len old new s h1
  ((conv => whnf); (repeat ((first | refine VrN.norm (wrap_i64 (by omega)) ?_ | refine VrN.keep ?_ | refine DrawN.calm (by decide +kernel) ?_ | refine Nd.mk (by decide +kernel) ?_ | refine Nd.mk (by omega) ?_ | (refine Nd.mk ?_ ?_; focus ((repeat' (first | exact trivial | exact wkE_refl _ | refine And.intro ?_ ?_)); done)) | refine RdN.intro _ rfl (by rfl) ?_); (conv => whnf))))
  refine brdF (by rw [bs_list, bs_list]; simpa using hne) ?_
  ((conv => whnf); (repeat ((first | refine VrN.norm (wrap_i64 (by omega)) ?_ | refine VrN.keep ?_ | refine DrawN.calm (by decide +kernel) ?_ | refine Nd.mk (by decide +kernel) ?_ | refine Nd.mk (by omega) ?_ | (refine Nd.mk ?_ ?_; focus ((repeat' (first | exact trivial | exact wkE_refl _ | refine And.intro ?_ ?_)); done)) | refine RdN.intro _ rfl (by rfl) ?_); (conv => whnf))))
  refine call1 (hc _ fun w hw => hw.1) ?_
  ((conv => whnf); (repeat ((first | refine VrN.norm (wrap_i64 (by omega)) ?_ | refine VrN.keep ?_ | refine DrawN.calm (by decide +kernel) ?_ | refine Nd.mk (by decide +kernel) ?_ | refine Nd.mk (by omega) ?_ | (refine Nd.mk ?_ ?_; focus ((repeat' (first | exact trivial | exact wkE_refl _ | refine And.intro ?_ ?_)); done)) | refine RdN.intro _ rfl (by rfl) ?_); (conv => whnf))))
  refine brd_eq (fun h => ?_) (fun h => ?_)
  · have h0 : Lib.count s old = 0 := by omega
    have e : rpl old new s = s := by unfold rpl; rw [h0]; rfl
    rw [e]
    ((conv => whnf); (repeat ((first | refine VrN.norm (wrap_i64 (by omega)) ?_ | refine VrN.keep ?_ | refine DrawN.calm (by decide +kernel) ?_ | refine Nd.mk (by decide +kernel) ?_ | refine Nd.mk (by omega) ?_ | (refine Nd.mk ?_ ?_; focus ((repeat' (first | exact trivial | exact wkE_refl _ | refine And.intro ?_ ?_)); done)) | refine RdN.intro _ rfl (by rfl) ?_); (conv => whnf))))
  · ((conv => whnf); (repeat ((first | refine VrN.norm (wrap_i64 (by omega)) ?_ | refine VrN.keep ?_ | refine DrawN.calm (by decide +kernel) ?_ | refine Nd.mk (by decide +kernel) ?_ | refine Nd.mk (by omega) ?_ | (refine Nd.mk ?_ ?_; focus ((repeat' (first | exact trivial | exact wkE_refl _ | refine And.intro ?_ ?_)); done)) | refine RdN.intro _ rfl (by rfl) ?_); (conv => whnf))))
    have harg : ∃ g : Nat, g ≤ 1000000 + 100000000 ∧ IntKind.wrap .i64 (((bs s).size : Int) + IntKind.wrap .i64 ((Lib.count s old : Int) * IntKind.wrap .i64 (((bs new).size : Int) - ((bs old).size : Int)))) = (g : Int) := by
      rw [bs_size, bs_size, bs_size, wrap_i64 (x := (new.length : Int) - old.length) (by omega), Int.mul_sub]
      have e1 : (Lib.count s old : Int) * (new.length : Int) = ((Lib.count s old * new.length : Nat) : Int) := by push_cast; rfl
      have e2 : (Lib.count s old : Int) * (old.length : Int) = ((Lib.count s old * old.length : Nat) : Int) := by push_cast; rfl
      rw [e1, e2]
      refine ⟨s.length + Lib.count s old * new.length - Lib.count s old * old.length, by omega, ?_⟩
      rw [wrap_i64 (x := ((Lib.count s old * new.length : Nat) : Int) - ((Lib.count s old * old.length : Nat) : Int)) (by omega), wrap_i64 (by omega)]
      omega
    obtain ⟨g, hg, hge⟩ := harg
    rw [hge]
    refine SpecH.pad [.app 5 1 [] none 0 0] rfl ?_
    refine callG (Grow_c g (by omega)) [1, 2] rfl ⟨rfl, rfl, trivial⟩ rfl fun i0 hok => ?_
    ((conv => whnf); (repeat ((first | refine VrN.norm (wrap_i64 (by omega)) ?_ | refine VrN.keep ?_ | refine DrawN.calm (by decide +kernel) ?_ | refine Nd.mk (by decide +kernel) ?_ | refine Nd.mk (by omega) ?_ | (refine Nd.mk ?_ ?_; focus ((repeat' (first | exact trivial | exact wkE_refl _ | refine And.intro ?_ ?_)); done)) | refine RdN.intro _ rfl (by rfl) ?_); (conv => whnf))))
    refine brd_dec (fun _ => ?_) (fun hno => by rw [bs_size] at hno; omega)
    ((conv => whnf); (repeat ((first | refine VrN.norm (wrap_i64 (by omega)) ?_ | refine VrN.keep ?_ | refine DrawN.calm (by decide +kernel) ?_ | refine Nd.mk (by decide +kernel) ?_ | refine Nd.mk (by omega) ?_ | (refine Nd.mk ?_ ?_; focus ((repeat' (first | exact trivial | exact wkE_refl _ | refine And.intro ?_ ?_)); done)) | refine RdN.intro _ rfl (by rfl) ?_); (conv => whnf))))
    refine LoopN.intro (Nat × List UInt8 × Nat × BSt) (fun ⟨i, out, st, b⟩ => RpOk s old new (Lib.count s old) i out st ∧ b.ok out.length) (fun ⟨i, out, st, b⟩ => mkS Tryd.f21.ntmps 0 [(0, .c (.v (.string (bs s)))), (1, .c (.v (.string (bs old)))), (2, .c (.v (.string (bs new)))), (10, .c (.lp 1 0)), (11, .c (.v (.int .i64 (st : Int)))), (52, .c (.v (.int .i64 (Lib.count s old : Nat)))), (53, .c (.v (.int .i64 (i : Int))))])
      (fun ⟨i, out, st, b⟩ => [.fact MaxF, .blk 61 [.lp 1 0, .v (.slice (at0 b.ob) out.length b.cap)], .app 5 1 (u8s out) (at0 b.ob) out.length b.cap]) (fun ⟨i, _⟩ => Lib.count s old - i) [] rfl
      (fun _ => rfl) (fun _ => rfl) (fun _ _ => okHB_eq rfl) ⟨⟨0, [], 0, i0⟩, ⟨⟨by omega, by omega, by simp, by simp, by simp⟩, hok⟩, ?_, ?_⟩ ?_
    · (repeat' (first | exact trivial | refine And.intro (by with_reducible rfl) ?_ | (with_reducible exact wkC_refl _) | (with_reducible exact wkCs_refl _) | refine And.intro ?_ ?_))
      all_goals rfl
    · exact wkH_of_eq (by simp [bC, rnE, rnC, rnCs, rnI])
    rintro ⟨i, out, st, b⟩ ⟨hi, hok⟩
    have hlen := hi.len
    have hst := hi.hst
    have hle := hi.le
    have hin : i * new.length ≤ Lib.count s old * new.length := Nat.mul_le_mul_right _ hle
    ((conv => whnf); (repeat ((first | refine VrN.norm (wrap_i64 (by omega)) ?_ | refine VrN.keep ?_ | refine DrawN.calm (by decide +kernel) ?_ | refine Nd.mk (by decide +kernel) ?_ | refine Nd.mk (by omega) ?_ | (refine Nd.mk ?_ ?_; focus ((repeat' (first | exact trivial | exact wkE_refl _ | refine And.intro ?_ ?_)); done)) | refine RdN.intro _ rfl (by rfl) ?_); (conv => whnf))))
    refine brd_dec (fun h2 => ?_) (fun h2 => ?_)
    · obtain ⟨x, hx, hr, hok2⟩ := hi.step h1 (by omega)
      ((conv => whnf); (repeat ((first | refine VrN.norm (wrap_i64 (by omega)) ?_ | refine VrN.keep ?_ | refine DrawN.calm (by decide +kernel) ?_ | refine Nd.mk (by decide +kernel) ?_ | refine Nd.mk (by omega) ?_ | (refine Nd.mk ?_ ?_; focus ((repeat' (first | exact trivial | exact wkE_refl _ | refine And.intro ?_ ?_)); done)) | refine RdN.intro _ rfl (by rfl) ?_); (conv => whnf))))
      refine ReadW.sl_l st rfl (by kernel_rfl) rfl rfl ⟨rfl, hst⟩ ?_
      ((conv => whnf); (repeat ((first | refine VrN.norm (wrap_i64 (by omega)) ?_ | refine VrN.keep ?_ | refine DrawN.calm (by decide +kernel) ?_ | refine Nd.mk (by decide +kernel) ?_ | refine Nd.mk (by omega) ?_ | (refine Nd.mk ?_ ?_; focus ((repeat' (first | exact trivial | exact wkE_refl _ | refine And.intro ?_ ?_)); done)) | refine RdN.intro _ rfl (by rfl) ?_); (conv => whnf)))); refine call1 (Index_c (s.drop st) old (by simp; omega) _ fun w hw => hw.1) ?_
      rw [hx]
      ((conv => whnf); (repeat ((first | refine VrN.norm (wrap_i64 (by omega)) ?_ | refine VrN.keep ?_ | refine DrawN.calm (by decide +kernel) ?_ | refine Nd.mk (by decide +kernel) ?_ | refine Nd.mk (by omega) ?_ | (refine Nd.mk ?_ ?_; focus ((repeat' (first | exact trivial | exact wkE_refl _ | refine And.intro ?_ ?_)); done)) | refine RdN.intro _ rfl (by rfl) ?_); (conv => whnf))))
      refine ReadW.sl_lh st (st + x) rfl (by kernel_rfl) rfl rfl rfl ⟨rfl, by omega, by omega, by omega⟩ ?_
      ((conv => whnf); (repeat ((first | refine VrN.norm (wrap_i64 (by omega)) ?_ | refine VrN.keep ?_ | refine DrawN.calm (by decide +kernel) ?_ | refine Nd.mk (by decide +kernel) ?_ | refine Nd.mk (by omega) ?_ | (refine Nd.mk ?_ ?_; focus ((repeat' (first | exact trivial | exact wkE_refl _ | refine And.intro ?_ ?_)); done)) | refine RdN.intro _ rfl (by rfl) ?_); (conv => whnf))))
      refine callG (WriteString_c true out ((s.take (st + x)).drop st) b hok (by simp; omega)) [1, 2] rfl ⟨rfl, rfl, trivial⟩ rfl fun b1 hb1 => ?_
      ((conv => whnf); (repeat ((first | refine VrN.norm (wrap_i64 (by omega)) ?_ | refine VrN.keep ?_ | refine DrawN.calm (by decide +kernel) ?_ | refine Nd.mk (by decide +kernel) ?_ | refine Nd.mk (by omega) ?_ | (refine Nd.mk ?_ ?_; focus ((repeat' (first | exact trivial | exact wkE_refl _ | refine And.intro ?_ ?_)); done)) | refine RdN.intro _ rfl (by rfl) ?_); (conv => whnf))))
      refine callG (WriteString_c true (out ++ (s.take (st + x)).drop st) new b1 hb1 (by simp; omega)) [1, 2] rfl ⟨rfl, rfl, trivial⟩ rfl fun b2 hb2 => ?_
      ((conv => whnf); (repeat ((first | refine VrN.norm (wrap_i64 (by omega)) ?_ | refine VrN.keep ?_ | refine DrawN.calm (by decide +kernel) ?_ | refine Nd.mk (by decide +kernel) ?_ | refine Nd.mk (by omega) ?_ | (refine Nd.mk ?_ ?_; focus ((repeat' (first | exact trivial | exact wkE_refl _ | refine And.intro ?_ ?_)); done)) | refine RdN.intro _ rfl (by rfl) ?_); (conv => whnf))))
      refine ⟨⟨i + 1, out ++ (s.take (st + x)).drop st ++ new, st + x + old.length, b2⟩, ⟨hok2, hb2⟩, by show Lib.count s old - (i + 1) < Lib.count s old - i; omega, ?_, ?_⟩
      · (repeat' (first | exact trivial | refine And.intro (by with_reducible rfl) ?_ | (with_reducible exact wkC_refl _) | (with_reducible exact wkCs_refl _) | refine And.intro ?_ ?_))
        all_goals exact av_int (by simp (disch := omega) only [bs_size, wrap_i64]; omega)
      · exact wkH_of_eq (by simp [bC, rnE, rnC, rnCs, rnI])
    · have hik : i = Lib.count s old := by omega
      subst hik
      have he := hi.eq
      rw [Nat.sub_self] at he
      ((conv => whnf); (repeat ((first | refine VrN.norm (wrap_i64 (by omega)) ?_ | refine VrN.keep ?_ | refine DrawN.calm (by decide +kernel) ?_ | refine Nd.mk (by decide +kernel) ?_ | refine Nd.mk (by omega) ?_ | (refine Nd.mk ?_ ?_; focus ((repeat' (first | exact trivial | exact wkE_refl _ | refine And.intro ?_ ?_)); done)) | refine RdN.intro _ rfl (by rfl) ?_); (conv => whnf))))
      refine ReadW.sl_l st rfl (by kernel_rfl) rfl rfl ⟨rfl, hst⟩ ?_
      ((conv => whnf); (repeat ((first | refine VrN.norm (wrap_i64 (by omega)) ?_ | refine VrN.keep ?_ | refine DrawN.calm (by decide +kernel) ?_ | refine Nd.mk (by decide +kernel) ?_ | refine Nd.mk (by omega) ?_ | (refine Nd.mk ?_ ?_; focus ((repeat' (first | exact trivial | exact wkE_refl _ | refine And.intro ?_ ?_)); done)) | refine RdN.intro _ rfl (by rfl) ?_); (conv => whnf))))
      refine callG (WriteString_c true out (s.drop st) b hok (by simp; omega)) [1, 2] rfl ⟨rfl, rfl, trivial⟩ rfl fun b1 hb1 => ?_
      ((conv => whnf); (repeat ((first | refine VrN.norm (wrap_i64 (by omega)) ?_ | refine VrN.keep ?_ | refine DrawN.calm (by decide +kernel) ?_ | refine Nd.mk (by decide +kernel) ?_ | refine Nd.mk (by omega) ?_ | (refine Nd.mk ?_ ?_; focus ((repeat' (first | exact trivial | exact wkE_refl _ | refine And.intro ?_ ?_)); done)) | refine RdN.intro _ rfl (by rfl) ?_); (conv => whnf))))
      refine callG (BString_c true (out ++ s.drop st) b1 hb1) [1, 2] rfl ⟨rfl, rfl, trivial⟩ rfl fun _ _ => ?_
      ((conv => whnf); (repeat ((first | refine VrN.norm (wrap_i64 (by omega)) ?_ | refine VrN.keep ?_ | refine DrawN.calm (by decide +kernel) ?_ | refine Nd.mk (by decide +kernel) ?_ | refine Nd.mk (by omega) ?_ | (refine Nd.mk ?_ ?_; focus ((repeat' (first | exact trivial | exact wkE_refl _ | refine And.intro ?_ ?_)); done)) | refine RdN.intro _ rfl (by rfl) ?_); (conv => whnf))))
      rw [show out ++ s.drop st = rpl old new s from he]
end Go.Proofs.YtfcjgklghgpddaaDoor
