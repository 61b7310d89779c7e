/-
  Contracts: the last place of a byte; blanks trimmed.
-/
import Derived.Test.YtfcjgklghgpddaaDoorLB2
namespace Go.Proofs.YtfcjgklghgpddaaDoor
open Go.AX Go.RowKit
set_option maxRecDepth 20000

/-- The last place of a byte among the first k. -/
def lastAt (s : List UInt8) (c : UInt8) : Nat → Int
  | 0 => -1
  | k + 1 => if s[k]? = some c then (k : Int) else lastAt s c k
theorem lastAt_ge (s : List UInt8) (c : UInt8) : ∀ k, -1 ≤ lastAt s c k ∧ lastAt s c k < k
  | 0 => by simp [lastAt]
  | k + 1 => by
    have := lastAt_ge s c k
    unfold lastAt
    split <;> omega
theorem LastIndexByteString_c (s : List UInt8) (c : UInt8) (hs : s.length ≤ 1000000000) : ∀ H, SpecH Tryd.prog 66 (pvs [.string (bs s), .int .u8 (c.toNat : Int)]) H (Ret (.int .i64 (lastAt s c s.length)) H) := by
  refine pureC hm Tryd.func66 (by kernel_rfl) rfl rfl ?_
  ((conv => whnf); (repeat ((first | refine VrN.norm (wrap_i64 (by omega)) ?_ | refine VrN.keep ?_ | refine DrawN.calm (by decide +kernel) ?_ | refine Nd.mk (by decide +kernel) ?_ | refine Nd.mk (by omega) ?_ | (refine Nd.mk ?_ ?_; focus ((repeat' (first | exact trivial | exact wkE_refl _ | refine And.intro ?_ ?_)); done)) | refine RdN.intro _ rfl (by rfl) ?_); (conv => whnf))))
  refine loopS Nat (fun k => k ≤ s.length ∧ lastAt s c k = lastAt s c s.length) (fun k => mkS Tryd.f66.ntmps 0 [(0, .c (.v (.string (bs s)))), (1, .c (.v (.int .u8 (c.toNat : Int)))), (5, .c (.v (.int .i64 ((k : Int) - 1))))]) (fun k => k) rfl (fun _ => rfl) s.length ⟨by omega, rfl⟩ ?_ fun k ⟨hk, he⟩ => ?_
  · (repeat' (first | exact trivial | refine And.intro (by with_reducible rfl) ?_ | (with_reducible exact wkC_refl _) | (with_reducible exact wkCs_refl _) | refine And.intro ?_ ?_))
    exact av_int (by simp (disch := omega) only [bs_size, wrap_i64])
  by_cases hk0 : k = 0
  · subst hk0
    ((conv => whnf); (repeat ((first | refine VrN.norm (wrap_i64 (by omega)) ?_ | refine VrN.keep ?_ | refine DrawN.calm (by decide +kernel) ?_ | refine Nd.mk (by decide +kernel) ?_ | refine Nd.mk (by omega) ?_ | (refine Nd.mk ?_ ?_; focus ((repeat' (first | exact trivial | exact wkE_refl _ | refine And.intro ?_ ?_)); done)) | refine RdN.intro _ rfl (by rfl) ?_); (conv => whnf))))
    rw [← he]; rfl
  · obtain ⟨k, rfl⟩ : ∃ j, k = j + 1 := ⟨k - 1, by omega⟩
    ((conv => whnf); (repeat ((first | refine VrN.norm (wrap_i64 (by omega)) ?_ | refine VrN.keep ?_ | refine DrawN.calm (by decide +kernel) ?_ | refine Nd.mk (by decide +kernel) ?_ | refine Nd.mk (by omega) ?_ | (refine Nd.mk ?_ ?_; focus ((repeat' (first | exact trivial | exact wkE_refl _ | refine And.intro ?_ ?_)); done)) | refine RdN.intro _ rfl (by rfl) ?_); (conv => whnf))))
    have hc : ∃ x, s[k]? = some x := ⟨_, List.getElem?_eq_getElem (by omega)⟩
    obtain ⟨x, hc⟩ := hc
    have hbx := byteAt_get hc
    refine brd_dec (fun _ => ?_) (fun h => by omega)
    ((conv => whnf); (repeat ((first | refine VrN.norm (wrap_i64 (by omega)) ?_ | refine VrN.keep ?_ | refine DrawN.calm (by decide +kernel) ?_ | refine Nd.mk (by decide +kernel) ?_ | refine Nd.mk (by omega) ?_ | (refine Nd.mk ?_ ?_; focus ((repeat' (first | exact trivial | exact wkE_refl _ | refine And.intro ?_ ?_)); done)) | refine RdN.intro _ rfl (by rfl) ?_); (conv => whnf))))
    refine Nd.mk ⟨by omega, by rw [bs_size]; omega⟩ ?_
    rw [show (((k + 1 : Nat) : Int) - 1).toNat = k by omega, hbx]
    ((conv => whnf); (repeat ((first | refine VrN.norm (wrap_i64 (by omega)) ?_ | refine VrN.keep ?_ | refine DrawN.calm (by decide +kernel) ?_ | refine Nd.mk (by decide +kernel) ?_ | refine Nd.mk (by omega) ?_ | (refine Nd.mk ?_ ?_; focus ((repeat' (first | exact trivial | exact wkE_refl _ | refine And.intro ?_ ?_)); done)) | refine RdN.intro _ rfl (by rfl) ?_); (conv => whnf))))
    refine brd_eq (fun h => ?_) (fun h => ?_)
    · have hx : x = c := UInt8.toNat_inj.1 (by omega)
      subst hx
      ((conv => whnf); (repeat ((first | refine VrN.norm (wrap_i64 (by omega)) ?_ | refine VrN.keep ?_ | refine DrawN.calm (by decide +kernel) ?_ | refine Nd.mk (by decide +kernel) ?_ | refine Nd.mk (by omega) ?_ | (refine Nd.mk ?_ ?_; focus ((repeat' (first | exact trivial | exact wkE_refl _ | refine And.intro ?_ ?_)); done)) | refine RdN.intro _ rfl (by rfl) ?_); (conv => whnf))))
      rw [← he, lastAt, if_pos hc]
      exact out_int (by omega)
    · ((conv => whnf); (repeat ((first | refine VrN.norm (wrap_i64 (by omega)) ?_ | refine VrN.keep ?_ | refine DrawN.calm (by decide +kernel) ?_ | refine Nd.mk (by decide +kernel) ?_ | refine Nd.mk (by omega) ?_ | (refine Nd.mk ?_ ?_; focus ((repeat' (first | exact trivial | exact wkE_refl _ | refine And.intro ?_ ?_)); done)) | refine RdN.intro _ rfl (by rfl) ?_); (conv => whnf))))
      refine ⟨k, ⟨by omega, ?_⟩, by omega, ?_, by (repeat' (first | exact trivial | exact wkE_refl _ | refine And.intro ?_ ?_))⟩
      · rw [← he, lastAt, if_neg (fun h2 => h (by rw [hc] at h2; cases h2; rfl))]
      · (repeat' (first | exact trivial | refine And.intro (by with_reducible rfl) ?_ | (with_reducible exact wkC_refl _) | (with_reducible exact wkCs_refl _) | refine And.intro ?_ ?_))
        exact av_int (by omega)
theorem LastIndexByte_c (s : List UInt8) (c : UInt8) (hs : s.length ≤ 1000000000) : ∀ H, SpecH Tryd.prog 57 (pvs [.string (bs s), .int .u8 (c.toNat : Int)]) H (Ret (.int .i64 (lastAt s c s.length)) H) := by
  refine pureC hm Tryd.func57 (by kernel_rfl) rfl rfl ?_
  ((conv => whnf); (repeat ((first | refine VrN.norm (wrap_i64 (by omega)) ?_ | refine VrN.keep ?_ | refine DrawN.calm (by decide +kernel) ?_ | refine Nd.mk (by decide +kernel) ?_ | refine Nd.mk (by omega) ?_ | (refine Nd.mk ?_ ?_; focus ((repeat' (first | exact trivial | exact wkE_refl _ | refine And.intro ?_ ?_)); done)) | refine RdN.intro _ rfl (by rfl) ?_); (conv => whnf)))); refine call1 (LastIndexByteString_c s c hs _) ?_
  ((conv => whnf); (repeat ((first | refine VrN.norm (wrap_i64 (by omega)) ?_ | refine VrN.keep ?_ | refine DrawN.calm (by decide +kernel) ?_ | refine Nd.mk (by decide +kernel) ?_ | refine Nd.mk (by omega) ?_ | (refine Nd.mk ?_ ?_; focus ((repeat' (first | exact trivial | exact wkE_refl _ | refine And.intro ?_ ?_)); done)) | refine RdN.intro _ rfl (by rfl) ?_); (conv => whnf))))

/-! ### Sets of bytes -/
/-- A table of truth values by byte. -/
def TabB (xs : List Value) (p : UInt8 → Bool) : Prop := ∀ c : UInt8, xs[c.toNat]? = some (.bool (p c))
theorem rnCs_vs (σ : List Nat) (N : Nat) : ∀ xs : List Value, rnCs σ N (vs xs) = vs xs
  | [] => rfl
  | x :: xs => by simp [vs, rnCs, rnC, rnCs_vs σ N xs]
theorem contains_c (T : TypeId) (xs : List Value) (p : UInt8 → Bool) (hp : TabB xs p) (c : UInt8) : SpecH Tryd.prog 75 [.c (.lp 0 0), .c (.v (.int .u8 (c.toNat : Int)))] [.blk T (vs xs)]
    (RetG (ι := Unit) (fun _ => True) (fun _ => .bool (p c)) fun _ => [.blk T (vs xs)]) := by
  refine ownC hm Tryd.func75 (by kernel_rfl) rfl rfl (fun _ _ => ⟨okCs_vs _ xs, trivial⟩) (fun _ _ => Nat.le_refl _) ?_
  have hc := c.toNat_lt
  ((conv => whnf); (repeat ((first | refine VrN.norm (wrap_i64 (by omega)) ?_ | refine VrN.keep ?_ | refine DrawN.calm (by decide +kernel) ?_ | refine Nd.mk (by decide +kernel) ?_ | refine Nd.mk (by omega) ?_ | (refine Nd.mk ?_ ?_; focus ((repeat' (first | exact trivial | exact wkE_refl _ | refine And.intro ?_ ?_)); done)) | refine RdN.intro _ rfl (by rfl) ?_); (conv => whnf))))
  have key : ∀ z, z = c.toNat → nthC (vs xs) z = some (.v (.bool (p c))) := fun z hz => by rw [hz, nthC_eq, vs_eq, List.getElem?_map, hp c]; rfl
  rw [key _ (by show 0 + Int.toNat (c.toNat : Int) * 1 = _; omega)]
  ((conv => whnf); (repeat ((first | refine VrN.norm (wrap_i64 (by omega)) ?_ | refine VrN.keep ?_ | refine DrawN.calm (by decide +kernel) ?_ | refine Nd.mk (by decide +kernel) ?_ | refine Nd.mk (by omega) ?_ | (refine Nd.mk ?_ ?_; focus ((repeat' (first | exact trivial | exact wkE_refl _ | refine And.intro ?_ ?_)); done)) | refine RdN.intro _ rfl (by rfl) ?_); (conv => whnf))))
  exact ⟨(), trivial, rfl, wkH_refl _⟩
theorem trimLeftASCII_c (T : TypeId) (xs : List Value) (p : UInt8 → Bool) (hp : TabB xs p) (s : List UInt8) : SpecH Tryd.prog 70 [.c (.v (.string (bs s))), .c (.lp 0 0)] [.blk T (vs xs)]
    (RetG (ι := Unit) (fun _ => True) (fun _ => .string (bs (s.dropWhile p))) fun _ => [.blk T (vs xs)]) := by
  refine ownC hm Tryd.func70 (by kernel_rfl) rfl rfl (fun _ _ => ⟨okCs_vs _ xs, trivial⟩) (fun _ _ => Nat.le_refl _) ?_
  ((conv => whnf); (repeat ((first | refine VrN.norm (wrap_i64 (by omega)) ?_ | refine VrN.keep ?_ | refine DrawN.calm (by decide +kernel) ?_ | refine Nd.mk (by decide +kernel) ?_ | refine Nd.mk (by omega) ?_ | (refine Nd.mk ?_ ?_; focus ((repeat' (first | exact trivial | exact wkE_refl _ | refine And.intro ?_ ?_)); done)) | refine RdN.intro _ rfl (by rfl) ?_); (conv => whnf))))
  refine LoopN.intro (List UInt8) (fun l => l.dropWhile p = s.dropWhile p) (fun l => mkS Tryd.f70.ntmps 0 [(0, .c (.v (.string (bs l)))), (1, .c (.lp 0 0))]) (fun _ => [.blk T (vs xs)]) (fun l => l.length) [] rfl (fun _ => rfl) (fun _ => rfl) (fun _ _ => ⟨okCs_vs _ xs, trivial⟩) ⟨s, rfl, ?_, wkH_refl _⟩ fun l hl => ?_
  · (repeat' (first | exact trivial | refine And.intro (by with_reducible rfl) ?_ | (with_reducible exact wkC_refl _) | (with_reducible exact wkCs_refl _) | refine And.intro ?_ ?_))
    all_goals rfl
  cases l with
  | nil =>
    ((conv => whnf); (repeat ((first | refine VrN.norm (wrap_i64 (by omega)) ?_ | refine VrN.keep ?_ | refine DrawN.calm (by decide +kernel) ?_ | refine Nd.mk (by decide +kernel) ?_ | refine Nd.mk (by omega) ?_ | (refine Nd.mk ?_ ?_; focus ((repeat' (first | exact trivial | exact wkE_refl _ | refine And.intro ?_ ?_)); done)) | refine RdN.intro _ rfl (by rfl) ?_); (conv => whnf))))
    exact ⟨(), trivial, by rw [← hl]; rfl, wkH_refl _⟩
  | cons c l =>
    have hb : byteAt (bs (c :: l)) 0 = (c.toNat : Int) := byteAt_get rfl
    ((conv => whnf); (repeat ((first | refine VrN.norm (wrap_i64 (by omega)) ?_ | refine VrN.keep ?_ | refine DrawN.calm (by decide +kernel) ?_ | refine Nd.mk (by decide +kernel) ?_ | refine Nd.mk (by omega) ?_ | (refine Nd.mk ?_ ?_; focus ((repeat' (first | exact trivial | exact wkE_refl _ | refine And.intro ?_ ?_)); done)) | refine RdN.intro _ rfl (by rfl) ?_); (conv => whnf))))
    rw [bs_size]
    refine brd_dec (fun _ => ?_) (fun h => by simp at h)
    ((conv => whnf); (repeat ((first | refine VrN.norm (wrap_i64 (by omega)) ?_ | refine VrN.keep ?_ | refine DrawN.calm (by decide +kernel) ?_ | refine Nd.mk (by decide +kernel) ?_ | refine Nd.mk (by omega) ?_ | (refine Nd.mk ?_ ?_; focus ((repeat' (first | exact trivial | exact wkE_refl _ | refine And.intro ?_ ?_)); done)) | refine RdN.intro _ rfl (by rfl) ?_); (conv => whnf))))
    refine Nd.mk ⟨by omega, by rw [bs_size]; simp⟩ ?_
    rw [show ((0 : Int).toNat) = 0 from rfl, hb]
    ((conv => whnf); (repeat ((first | refine VrN.norm (wrap_i64 (by omega)) ?_ | refine VrN.keep ?_ | refine DrawN.calm (by decide +kernel) ?_ | refine Nd.mk (by decide +kernel) ?_ | refine Nd.mk (by omega) ?_ | (refine Nd.mk ?_ ?_; focus ((repeat' (first | exact trivial | exact wkE_refl _ | refine And.intro ?_ ?_)); done)) | refine RdN.intro _ rfl (by rfl) ?_); (conv => whnf))))
    refine callG (contains_c T xs p hp c) [0] rfl ⟨by show some _ = some (rnE _ _ _); simp [rnE, rnCs_vs], trivial⟩ rfl fun _ _ => ?_
    ((conv => whnf); (repeat ((first | refine VrN.norm (wrap_i64 (by omega)) ?_ | refine VrN.keep ?_ | refine DrawN.calm (by decide +kernel) ?_ | refine Nd.mk (by decide +kernel) ?_ | refine Nd.mk (by omega) ?_ | (refine Nd.mk ?_ ?_; focus ((repeat' (first | exact trivial | exact wkE_refl _ | refine And.intro ?_ ?_)); done)) | refine RdN.intro _ rfl (by rfl) ?_); (conv => whnf))))
    refine brd_not (brd_intro (fun h => ?_) (fun h => ?_))
    · ((conv => whnf); (repeat ((first | refine VrN.norm (wrap_i64 (by omega)) ?_ | refine VrN.keep ?_ | refine DrawN.calm (by decide +kernel) ?_ | refine Nd.mk (by decide +kernel) ?_ | refine Nd.mk (by omega) ?_ | (refine Nd.mk ?_ ?_; focus ((repeat' (first | exact trivial | exact wkE_refl _ | refine And.intro ?_ ?_)); done)) | refine RdN.intro _ rfl (by rfl) ?_); (conv => whnf))))
      refine ReadW.sl_l 1 rfl (by kernel_rfl) rfl rfl ⟨rfl, by simp⟩ ?_
      ((conv => whnf); (repeat ((first | refine VrN.norm (wrap_i64 (by omega)) ?_ | refine VrN.keep ?_ | refine DrawN.calm (by decide +kernel) ?_ | refine Nd.mk (by decide +kernel) ?_ | refine Nd.mk (by omega) ?_ | (refine Nd.mk ?_ ?_; focus ((repeat' (first | exact trivial | exact wkE_refl _ | refine And.intro ?_ ?_)); done)) | refine RdN.intro _ rfl (by rfl) ?_); (conv => whnf))))
      refine ⟨l, by rw [← hl, List.dropWhile_cons_of_pos h], by simp, ?_, wkH_of_eq (by simp [rnE, rnCs_vs])⟩
      (repeat' (first | exact trivial | refine And.intro (by with_reducible rfl) ?_ | (with_reducible exact wkC_refl _) | (with_reducible exact wkCs_refl _) | refine And.intro ?_ ?_))
      rfl
    · ((conv => whnf); (repeat ((first | refine VrN.norm (wrap_i64 (by omega)) ?_ | refine VrN.keep ?_ | refine DrawN.calm (by decide +kernel) ?_ | refine Nd.mk (by decide +kernel) ?_ | refine Nd.mk (by omega) ?_ | (refine Nd.mk ?_ ?_; focus ((repeat' (first | exact trivial | exact wkE_refl _ | refine And.intro ?_ ?_)); done)) | refine RdN.intro _ rfl (by rfl) ?_); (conv => whnf))))
      exact ⟨(), trivial, by rw [← hl, List.dropWhile_cons_of_neg (by simp [h])], wkH_of_eq (by simp [rnE, rnCs_vs])⟩
def trimE (p : UInt8 → Bool) (s : List UInt8) : List UInt8 := (s.reverse.dropWhile p).reverse
theorem trimE_snoc (p : UInt8 → Bool) (s : List UInt8) (c : UInt8) : trimE p (s ++ [c]) = if p c then trimE p s else s ++ [c] := by
  unfold trimE
  rw [List.reverse_append, List.reverse_singleton, List.singleton_append, List.dropWhile_cons]
  split <;> simp
theorem trimRightASCII_c (T : TypeId) (xs : List Value) (p : UInt8 → Bool) (hp : TabB xs p) (s : List UInt8) (hs : s.length ≤ 1000000000) : SpecH Tryd.prog 71 [.c (.v (.string (bs s))), .c (.lp 0 0)] [.blk T (vs xs)]
    (RetG (ι := Unit) (fun _ => True) (fun _ => .string (bs (trimE p s))) fun _ => [.blk T (vs xs)]) := by
  refine ownC hm Tryd.func71 (by kernel_rfl) rfl rfl (fun _ _ => ⟨okCs_vs _ xs, trivial⟩) (fun _ _ => Nat.le_refl _) ?_
  ((conv => whnf); (repeat ((first | refine VrN.norm (wrap_i64 (by omega)) ?_ | refine VrN.keep ?_ | refine DrawN.calm (by decide +kernel) ?_ | refine Nd.mk (by decide +kernel) ?_ | refine Nd.mk (by omega) ?_ | (refine Nd.mk ?_ ?_; focus ((repeat' (first | exact trivial | exact wkE_refl _ | refine And.intro ?_ ?_)); done)) | refine RdN.intro _ rfl (by rfl) ?_); (conv => whnf))))
  refine LoopN.intro (List UInt8) (fun l => trimE p l = trimE p s ∧ l.length ≤ 1000000000) (fun l => mkS Tryd.f71.ntmps 0 [(0, .c (.v (.string (bs l)))), (1, .c (.lp 0 0))]) (fun _ => [.blk T (vs xs)]) (fun l => l.length) [] rfl (fun _ => rfl) (fun _ => rfl) (fun _ _ => ⟨okCs_vs _ xs, trivial⟩) ⟨s, ⟨rfl, hs⟩, ?_, wkH_refl _⟩ fun l ⟨hl, hll⟩ => ?_
  · (repeat' (first | exact trivial | refine And.intro (by with_reducible rfl) ?_ | (with_reducible exact wkC_refl _) | (with_reducible exact wkCs_refl _) | refine And.intro ?_ ?_))
    all_goals rfl
  rcases List.eq_nil_or_concat l with rfl | ⟨l, c, rfl⟩
  · ((conv => whnf); (repeat ((first | refine VrN.norm (wrap_i64 (by omega)) ?_ | refine VrN.keep ?_ | refine DrawN.calm (by decide +kernel) ?_ | refine Nd.mk (by decide +kernel) ?_ | refine Nd.mk (by omega) ?_ | (refine Nd.mk ?_ ?_; focus ((repeat' (first | exact trivial | exact wkE_refl _ | refine And.intro ?_ ?_)); done)) | refine RdN.intro _ rfl (by rfl) ?_); (conv => whnf))))
    exact ⟨(), trivial, by rw [← hl]; rfl, wkH_refl _⟩
  · rw [List.concat_eq_append] at *
    have hb : byteAt (bs (l ++ [c])) l.length = (c.toNat : Int) := byteAt_get (by simp)
    rw [List.length_append] at hll
    rw [trimE_snoc] at hl
    ((conv => whnf); (repeat ((first | refine VrN.norm (wrap_i64 (by omega)) ?_ | refine VrN.keep ?_ | refine DrawN.calm (by decide +kernel) ?_ | refine Nd.mk (by decide +kernel) ?_ | refine Nd.mk (by omega) ?_ | (refine Nd.mk ?_ ?_; focus ((repeat' (first | exact trivial | exact wkE_refl _ | refine And.intro ?_ ?_)); done)) | refine RdN.intro _ rfl (by rfl) ?_); (conv => whnf))))
    rw [bs_size]
    refine brd_dec (fun _ => ?_) (fun h => by simp at h)
    ((conv => whnf); (repeat ((first | refine VrN.norm (wrap_i64 (by omega)) ?_ | refine VrN.keep ?_ | refine DrawN.calm (by decide +kernel) ?_ | refine Nd.mk (by decide +kernel) ?_ | refine Nd.mk (by omega) ?_ | (refine Nd.mk ?_ ?_; focus ((repeat' (first | exact trivial | exact wkE_refl _ | refine And.intro ?_ ?_)); done)) | refine RdN.intro _ rfl (by rfl) ?_); (conv => whnf))))
    rw [bs_size]
    have e : IntKind.wrap .i64 (((l ++ [c]).length : Int) - 1) = (l.length : Int) := by rw [wrap_i64 (by simp; simp at hll; omega)]; simp
    rw [e]
    refine Nd.mk ⟨by omega, by simp; omega⟩ ?_
    rw [Int.toNat_natCast, hb]
    ((conv => whnf); (repeat ((first | refine VrN.norm (wrap_i64 (by omega)) ?_ | refine VrN.keep ?_ | refine DrawN.calm (by decide +kernel) ?_ | refine Nd.mk (by decide +kernel) ?_ | refine Nd.mk (by omega) ?_ | (refine Nd.mk ?_ ?_; focus ((repeat' (first | exact trivial | exact wkE_refl _ | refine And.intro ?_ ?_)); done)) | refine RdN.intro _ rfl (by rfl) ?_); (conv => whnf))))
    refine callG (contains_c T xs p hp c) [0] rfl ⟨by show some _ = some (rnE _ _ _); simp [rnE, rnCs_vs], trivial⟩ rfl fun _ _ => ?_
    ((conv => whnf); (repeat ((first | refine VrN.norm (wrap_i64 (by omega)) ?_ | refine VrN.keep ?_ | refine DrawN.calm (by decide +kernel) ?_ | refine Nd.mk (by decide +kernel) ?_ | refine Nd.mk (by omega) ?_ | (refine Nd.mk ?_ ?_; focus ((repeat' (first | exact trivial | exact wkE_refl _ | refine And.intro ?_ ?_)); done)) | refine RdN.intro _ rfl (by rfl) ?_); (conv => whnf))))
    refine brd_not (brd_intro (fun h => ?_) (fun h => ?_))
    · ((conv => whnf); (repeat ((first | refine VrN.norm (wrap_i64 (by omega)) ?_ | refine VrN.keep ?_ | refine DrawN.calm (by decide +kernel) ?_ | refine Nd.mk (by decide +kernel) ?_ | refine Nd.mk (by omega) ?_ | (refine Nd.mk ?_ ?_; focus ((repeat' (first | exact trivial | exact wkE_refl _ | refine And.intro ?_ ?_)); done)) | refine RdN.intro _ rfl (by rfl) ?_); (conv => whnf))))
      refine ReadW.sl_h l.length rfl (by kernel_rfl) rfl rfl ⟨by rw [bs_size]; exact e, by simp⟩ ?_
      ((conv => whnf); (repeat ((first | refine VrN.norm (wrap_i64 (by omega)) ?_ | refine VrN.keep ?_ | refine DrawN.calm (by decide +kernel) ?_ | refine Nd.mk (by decide +kernel) ?_ | refine Nd.mk (by omega) ?_ | (refine Nd.mk ?_ ?_; focus ((repeat' (first | exact trivial | exact wkE_refl _ | refine And.intro ?_ ?_)); done)) | refine RdN.intro _ rfl (by rfl) ?_); (conv => whnf))))
      refine ⟨l, ⟨by rw [← hl, if_pos h], by simp at hll; omega⟩, by simp, ?_, wkH_of_eq (by simp [rnE, rnCs_vs])⟩
      (repeat' (first | exact trivial | refine And.intro (by with_reducible rfl) ?_ | (with_reducible exact wkC_refl _) | (with_reducible exact wkCs_refl _) | refine And.intro ?_ ?_))
      simp
    · ((conv => whnf); (repeat ((first | refine VrN.norm (wrap_i64 (by omega)) ?_ | refine VrN.keep ?_ | refine DrawN.calm (by decide +kernel) ?_ | refine Nd.mk (by decide +kernel) ?_ | refine Nd.mk (by omega) ?_ | (refine Nd.mk ?_ ?_; focus ((repeat' (first | exact trivial | exact wkE_refl _ | refine And.intro ?_ ?_)); done)) | refine RdN.intro _ rfl (by rfl) ?_); (conv => whnf))))
      exact ⟨(), trivial, by rw [← hl, if_neg (by simp [h])], wkH_of_eq (by simp [rnE, rnCs_vs])⟩
/-- Blanks. -/
def blankB (c : UInt8) : Bool := c == 32 || c == 9
def blankTab : List Value := (List.range 256).map fun i => .bool (i == 32 || i == 9)
theorem blankTab_ok : TabB blankTab blankB := fun c => by
  have hc := c.toNat_lt
  unfold blankTab blankB
  rw [List.getElem?_map, List.getElem?_range (by omega)]
  simp only [Option.map_some, Option.some.injEq, Value.bool.injEq]
  have h1 : (c.toNat == 32) = (c == 32) := by
    rw [Bool.eq_iff_iff, beq_iff_eq, beq_iff_eq]
    exact ⟨fun h => UInt8.toNat_inj.1 h, fun h => by rw [h]; rfl⟩
  have h2 : (c.toNat == 9) = (c == 9) := by
    rw [Bool.eq_iff_iff, beq_iff_eq, beq_iff_eq]
    exact ⟨fun h => UInt8.toNat_inj.1 h, fun h => by rw [h]; rfl⟩
  rw [h1, h2]
theorem setCells_blank : (Lib.setCells [32, 9]).toList = blankTab := by kernel_rfl
theorem setCells_blank' : Lib.setCells [32, 9] = blankTab.toArray := by apply Array.ext'; rw [setCells_blank]
theorem zero_set : (Tryd.prog.info? 94).map (fun i => i.zero) = some (some (.agg (Array.replicate 256 (.bool false)))) := by kernel_rfl
theorem makeASCIISet_c : ∀ H, SpecH Tryd.prog 69 (pvs [.string (bs [32, 9])]) H (Ret (.tuple #[.agg blankTab.toArray, .bool true]) H) := fun H =>
  SpecH.rawP (R := fun r => r = .tuple #[.agg blankTab.toArray, .bool true]) (callOk Tryd.func69 (by kernel_rfl) rfl)
    (fun w _ => (Tryd.strings_makeASCIISet (fun w => by obtain ⟨i, hi, hz⟩ := Option.map_eq_some_iff.1 zero_set; exact run_zeroValue hi hz w) (bs [32, 9]) w (by decide) (by
      intro j b hj
      rw [bs_list] at hj
      match j, hj with
      | 0, hj => cases hj; decide
      | 1, hj => cases hj; decide)).mono fun e w' ⟨he, hw⟩ => ⟨_, he, by rw [bs_list, setCells_blank'], by subst hw; exact (Below.refl _ w).alloc (Nat.le_refl _) _⟩) fun r hr => by subst hr; exact ⟨rfl, rfl⟩
theorem TrimRight_c (s : List UInt8) (hs : s.length ≤ 1000000000) : ∀ H, SpecH Tryd.prog 61 (pvs [.string (bs s), .string (bs [32, 9])]) H (Ret (.string (bs (trimE blankB s))) H) := by
  refine pureC hm Tryd.func61 (by kernel_rfl) rfl rfl ?_
  ((conv => whnf); (repeat ((first | refine VrN.norm (wrap_i64 (by omega)) ?_ | refine VrN.keep ?_ | refine DrawN.calm (by decide +kernel) ?_ | refine Nd.mk (by decide +kernel) ?_ | refine Nd.mk (by omega) ?_ | (refine Nd.mk ?_ ?_; focus ((repeat' (first | exact trivial | exact wkE_refl _ | refine And.intro ?_ ?_)); done)) | refine RdN.intro _ rfl (by rfl) ?_); (conv => whnf))))
  rw [bs_list]
  refine brd_intro (fun h => ?_) (fun h => ?_)
  · have : s = [] := by simpa using h
    subst this
    ((conv => whnf); (repeat ((first | refine VrN.norm (wrap_i64 (by omega)) ?_ | refine VrN.keep ?_ | refine DrawN.calm (by decide +kernel) ?_ | refine Nd.mk (by decide +kernel) ?_ | refine Nd.mk (by omega) ?_ | (refine Nd.mk ?_ ?_; focus ((repeat' (first | exact trivial | exact wkE_refl _ | refine And.intro ?_ ?_)); done)) | refine RdN.intro _ rfl (by rfl) ?_); (conv => whnf))))
    rfl
  · ((conv => whnf); (repeat ((first | refine VrN.norm (wrap_i64 (by omega)) ?_ | refine VrN.keep ?_ | refine DrawN.calm (by decide +kernel) ?_ | refine Nd.mk (by decide +kernel) ?_ | refine Nd.mk (by omega) ?_ | (refine Nd.mk ?_ ?_; focus ((repeat' (first | exact trivial | exact wkE_refl _ | refine And.intro ?_ ?_)); done)) | refine RdN.intro _ rfl (by rfl) ?_); (conv => whnf))))
    refine call1 (makeASCIISet_c _) ?_
    ((conv => whnf); (repeat ((first | refine VrN.norm (wrap_i64 (by omega)) ?_ | refine VrN.keep ?_ | refine DrawN.calm (by decide +kernel) ?_ | refine Nd.mk (by decide +kernel) ?_ | refine Nd.mk (by omega) ?_ | (refine Nd.mk ?_ ?_; focus ((repeat' (first | exact trivial | exact wkE_refl _ | refine And.intro ?_ ?_)); done)) | refine RdN.intro _ rfl (by rfl) ?_); (conv => whnf))))
    refine callG (trimRightASCII_c _ blankTab blankB blankTab_ok s hs) [0] rfl ⟨rfl, trivial⟩ rfl fun _ _ => ?_
    ((conv => whnf); (repeat ((first | refine VrN.norm (wrap_i64 (by omega)) ?_ | refine VrN.keep ?_ | refine DrawN.calm (by decide +kernel) ?_ | refine Nd.mk (by decide +kernel) ?_ | refine Nd.mk (by omega) ?_ | (refine Nd.mk ?_ ?_; focus ((repeat' (first | exact trivial | exact wkE_refl _ | refine And.intro ?_ ?_)); done)) | refine RdN.intro _ rfl (by rfl) ?_); (conv => whnf))))
theorem Trim_c (s : List UInt8) (hs : s.length ≤ 1000000000) : ∀ H, SpecH Tryd.prog 58 (pvs [.string (bs s), .string (bs [32, 9])]) H (Ret (.string (bs ((trimE blankB s).dropWhile blankB))) H) := by
  refine pureC hm Tryd.func58 (by kernel_rfl) rfl rfl ?_
  ((conv => whnf); (repeat ((first | refine VrN.norm (wrap_i64 (by omega)) ?_ | refine VrN.keep ?_ | refine DrawN.calm (by decide +kernel) ?_ | refine Nd.mk (by decide +kernel) ?_ | refine Nd.mk (by omega) ?_ | (refine Nd.mk ?_ ?_; focus ((repeat' (first | exact trivial | exact wkE_refl _ | refine And.intro ?_ ?_)); done)) | refine RdN.intro _ rfl (by rfl) ?_); (conv => whnf))))
  rw [bs_list]
  refine brd_intro (fun h => ?_) (fun h => ?_)
  · have : s = [] := by simpa using h
    subst this
    ((conv => whnf); (repeat ((first | refine VrN.norm (wrap_i64 (by omega)) ?_ | refine VrN.keep ?_ | refine DrawN.calm (by decide +kernel) ?_ | refine Nd.mk (by decide +kernel) ?_ | refine Nd.mk (by omega) ?_ | (refine Nd.mk ?_ ?_; focus ((repeat' (first | exact trivial | exact wkE_refl _ | refine And.intro ?_ ?_)); done)) | refine RdN.intro _ rfl (by rfl) ?_); (conv => whnf))))
    rfl
  · ((conv => whnf); (repeat ((first | refine VrN.norm (wrap_i64 (by omega)) ?_ | refine VrN.keep ?_ | refine DrawN.calm (by decide +kernel) ?_ | refine Nd.mk (by decide +kernel) ?_ | refine Nd.mk (by omega) ?_ | (refine Nd.mk ?_ ?_; focus ((repeat' (first | exact trivial | exact wkE_refl _ | refine And.intro ?_ ?_)); done)) | refine RdN.intro _ rfl (by rfl) ?_); (conv => whnf))))
    refine call1 (makeASCIISet_c _) ?_
    ((conv => whnf); (repeat ((first | refine VrN.norm (wrap_i64 (by omega)) ?_ | refine VrN.keep ?_ | refine DrawN.calm (by decide +kernel) ?_ | refine Nd.mk (by decide +kernel) ?_ | refine Nd.mk (by omega) ?_ | (refine Nd.mk ?_ ?_; focus ((repeat' (first | exact trivial | exact wkE_refl _ | refine And.intro ?_ ?_)); done)) | refine RdN.intro _ rfl (by rfl) ?_); (conv => whnf))))
    refine callG (trimRightASCII_c _ blankTab blankB blankTab_ok s hs) [0] rfl ⟨rfl, trivial⟩ rfl fun _ _ => ?_
    ((conv => whnf); (repeat ((first | refine VrN.norm (wrap_i64 (by omega)) ?_ | refine VrN.keep ?_ | refine DrawN.calm (by decide +kernel) ?_ | refine Nd.mk (by decide +kernel) ?_ | refine Nd.mk (by omega) ?_ | (refine Nd.mk ?_ ?_; focus ((repeat' (first | exact trivial | exact wkE_refl _ | refine And.intro ?_ ?_)); done)) | refine RdN.intro _ rfl (by rfl) ?_); (conv => whnf))))
    refine callG (trimLeftASCII_c _ blankTab blankB blankTab_ok (trimE blankB s)) [0] rfl ⟨rfl, trivial⟩ rfl fun _ _ => ?_
    ((conv => whnf); (repeat ((first | refine VrN.norm (wrap_i64 (by omega)) ?_ | refine VrN.keep ?_ | refine DrawN.calm (by decide +kernel) ?_ | refine Nd.mk (by decide +kernel) ?_ | refine Nd.mk (by omega) ?_ | (refine Nd.mk ?_ ?_; focus ((repeat' (first | exact trivial | exact wkE_refl _ | refine And.intro ?_ ?_)); done)) | refine RdN.intro _ rfl (by rfl) ?_); (conv => whnf))))
end Go.Proofs.YtfcjgklghgpddaaDoor
