/-
  Lemmas (C7 C8 C9 C10 P11 C11 C12 C13).
-/
import Derived.Test.YtjkchonpnocffaaDoorMh4
/-
  Contract: bytes turned in place (slices.Reverse).
-/
namespace Go.Proofs.YtjkchonpnocffaaDoor
open Go.AX Go.RowKit Go.Pack
set_option maxRecDepth 20000

def own (l : List UInt8) (b cap : Nat) : Ent := .app 5 1 (u8s l) (some ⟨b, 0, none⟩) l.length cap
theorem ptr_lit {a : AV} {b n q : Nat} (h : a = .c (.v (.pointer (some (elemAddr (some ⟨b, 0, none⟩) n))))) (hq : n = q) : a = .c (.v (.pointer (some ⟨b, q, none⟩))) := by
  rw [h, hq]
  unfold elemAddr
  rw [show (some (⟨b, 0, none⟩ : Addr)).getD default = ⟨b, 0, none⟩ from rfl, add_lit0]
theorem u8s_at {l : List UInt8} {k : Nat} {c : UInt8} (h : l[k]? = some c) : (u8s l)[k]? = some (.int .u8 (c.toNat : Int)) := by simp [u8s, h]
theorem u8s_put {l : List UInt8} {k : Nat} (c : UInt8) (h : k < l.length) : (u8s l).take k ++ [.int .u8 (c.toNat : Int)] ++ (u8s l).drop (k + 1) = u8s (l.set k c) := by
  have := put_set (xs := u8s l) (q := k) (.int .u8 (c.toNat : Int)) (by simpa [u8s] using h)
  rw [show [Value.int .u8 (c.toNat : Int)].length = 1 from rfl] at this
  rw [this]
  simp [u8s]
theorem Reverse_c (l : List UInt8) (b cap : Nat) (hl : l.length ≤ 1000000) : SpecH Tryd.prog 104 [.c (.v (.slice (some ⟨b, 0, none⟩) l.length cap))] [own l b cap] (RetG (ι := Unit) (fun _ => True) (fun _ => .tuple #[]) fun _ => [own l.reverse b cap]) := by
  refine ownC hm Tryd.func104 (by kernel_rfl) rfl rfl (fun _ _ => okHB_eq rfl) (fun _ _ => Nat.le_refl _) ?_
  ((conv => whnf); (repeat ((first | refine BoxN.own ?_ | refine RwN.own ?_ | refine VrN.norm (wrap_i64 (by omega)) ?_ | refine VrN.keep ?_ | refine DrawN.calm (by decide +kernel) ?_ | refine Nd.mk (by decide +kernel) ?_ | refine Nd.mk (by omega) ?_ | (refine Nd.mk ?_ ?_; focus ((repeat' (first | exact trivial | exact wkE_refl _ | refine And.intro ?_ ?_)); done)) | refine RdN.intro _ rfl (by rfl) ?_); (conv => whnf))))
  refine LoopN.intro Nat (fun i => 2 * i ≤ l.length + 1)
    (fun i => mkS Tryd.f104.ntmps 0 [(0, .c (.v (.slice (some ⟨b, 0, none⟩) l.length cap))), (2, .c (.v (.int .i64 (i : Int)))), (3, .c (.v (.int .i64 ((l.length : Int) - 1 - i))))])
    (fun i => [.app 5 1 (u8s (sw l i)) (some ⟨b, 0, none⟩) l.length cap]) (fun i => l.length - i) [] rfl
    (fun _ => rfl) (fun _ => rfl) (fun _ _ => okHB_eq rfl) ⟨0, by omega, ?_, ?_⟩ ?_
  · (repeat' (first | exact trivial | refine And.intro (by with_reducible rfl) ?_ | (with_reducible exact wkC_refl _) | (with_reducible exact wkCs_refl _) | refine And.intro ?_ ?_))
    all_goals first | rfl | exact av_int (by first | omega | (rw [wrap_i64 (by omega)]; omega))
  · rw [sw_zero]
    exact wkH_refl _
  intro i hi
  ((conv => whnf); (repeat ((first | refine BoxN.own ?_ | refine RwN.own ?_ | refine VrN.norm (wrap_i64 (by omega)) ?_ | refine VrN.keep ?_ | refine DrawN.calm (by decide +kernel) ?_ | refine Nd.mk (by decide +kernel) ?_ | refine Nd.mk (by omega) ?_ | (refine Nd.mk ?_ ?_; focus ((repeat' (first | exact trivial | exact wkE_refl _ | refine And.intro ?_ ?_)); done)) | refine RdN.intro _ rfl (by rfl) ?_); (conv => whnf))))
  refine brd_dec (fun h => ?_) (fun h => ?_)
  · have hlen := sw_len l i
    have g1 := sw_get l i i (by omega)
    have g2 := sw_get l i (l.length - 1 - i) (by omega)
    rw [if_neg (by omega)] at g1 g2
    have hst := sw_step l i (by omega)
    ((conv => whnf); (repeat ((first | refine BoxN.own ?_ | refine RwN.own ?_ | refine VrN.norm (wrap_i64 (by omega)) ?_ | refine VrN.keep ?_ | refine DrawN.calm (by decide +kernel) ?_ | refine Nd.mk (by decide +kernel) ?_ | refine Nd.mk (by omega) ?_ | (refine Nd.mk ?_ ?_; focus ((repeat' (first | exact trivial | exact wkE_refl _ | refine And.intro ?_ ?_)); done)) | refine RdN.intro _ rfl (by rfl) ?_); (conv => whnf))))
    refine DrawN.plan [0, 1, 2, 3, 4, 5, 8, 9] [(6, 1), (7, 1), (10, 1), (11, 1), (12, 1)] [(13, 0), (14, 0), (15, 0)] (by decide +kernel) ?_
    ((conv => whnf); (repeat ((first | refine BoxN.own ?_ | refine RwN.own ?_ | refine VrN.norm (wrap_i64 (by omega)) ?_ | refine VrN.keep ?_ | refine DrawN.calm (by decide +kernel) ?_ | refine Nd.mk (by decide +kernel) ?_ | refine Nd.mk (by omega) ?_ | (refine Nd.mk ?_ ?_; focus ((repeat' (first | exact trivial | exact wkE_refl _ | refine And.intro ?_ ?_)); done)) | refine RdN.intro _ rfl (by rfl) ?_); (conv => whnf))))
    refine Nd.mk ⟨rfl, by omega, by omega⟩ ?_
    ((conv => whnf); (repeat ((first | refine BoxN.own ?_ | refine RwN.own ?_ | refine VrN.norm (wrap_i64 (by omega)) ?_ | refine VrN.keep ?_ | refine DrawN.calm (by decide +kernel) ?_ | refine Nd.mk (by decide +kernel) ?_ | refine Nd.mk (by omega) ?_ | (refine Nd.mk ?_ ?_; focus ((repeat' (first | exact trivial | exact wkE_refl _ | refine And.intro ?_ ?_)); done)) | refine RdN.intro _ rfl (by rfl) ?_); (conv => whnf))))
    refine LdN.one (.int .u8 ((l.getD (l.length - 1 - i) 0).toNat : Int)) rfl (fun w hw => hw.1) (by
      show (u8s (sw l i))[((l.length : Int) - 1 - i).toNat * 1]? = _
      rw [Nat.mul_one, show ((l.length : Int) - 1 - i).toNat = l.length - 1 - i by omega]
      exact u8s_at g2) ?_
    ((conv => whnf); (repeat ((first | refine BoxN.own ?_ | refine RwN.own ?_ | refine VrN.norm (wrap_i64 (by omega)) ?_ | refine VrN.keep ?_ | refine DrawN.calm (by decide +kernel) ?_ | refine Nd.mk (by decide +kernel) ?_ | refine Nd.mk (by omega) ?_ | (refine Nd.mk ?_ ?_; focus ((repeat' (first | exact trivial | exact wkE_refl _ | refine And.intro ?_ ?_)); done)) | refine RdN.intro _ rfl (by rfl) ?_); (conv => whnf))))
    refine Nd.mk ⟨rfl, by omega, by omega⟩ ?_
    ((conv => whnf); (repeat ((first | refine BoxN.own ?_ | refine RwN.own ?_ | refine VrN.norm (wrap_i64 (by omega)) ?_ | refine VrN.keep ?_ | refine DrawN.calm (by decide +kernel) ?_ | refine Nd.mk (by decide +kernel) ?_ | refine Nd.mk (by omega) ?_ | (refine Nd.mk ?_ ?_; focus ((repeat' (first | exact trivial | exact wkE_refl _ | refine And.intro ?_ ?_)); done)) | refine RdN.intro _ rfl (by rfl) ?_); (conv => whnf))))
    refine LdN.one (.int .u8 ((l.getD i 0).toNat : Int)) rfl (fun w hw => hw.1) (by
      show (u8s (sw l i))[(i : Int).toNat * 1]? = _
      rw [Nat.mul_one, Int.toNat_natCast]
      exact u8s_at g1) ?_
    ((conv => whnf); (repeat ((first | refine BoxN.own ?_ | refine RwN.own ?_ | refine VrN.norm (wrap_i64 (by omega)) ?_ | refine VrN.keep ?_ | refine DrawN.calm (by decide +kernel) ?_ | refine Nd.mk (by decide +kernel) ?_ | refine Nd.mk (by omega) ?_ | (refine Nd.mk ?_ ?_; focus ((repeat' (first | exact trivial | exact wkE_refl _ | refine And.intro ?_ ?_)); done)) | refine RdN.intro _ rfl (by rfl) ?_); (conv => whnf))))
    refine Nd.mk ⟨rfl, by omega, by omega⟩ ?_
    ((conv => whnf); (repeat ((first | refine BoxN.own ?_ | refine RwN.own ?_ | refine VrN.norm (wrap_i64 (by omega)) ?_ | refine VrN.keep ?_ | refine DrawN.calm (by decide +kernel) ?_ | refine Nd.mk (by decide +kernel) ?_ | refine Nd.mk (by omega) ?_ | (refine Nd.mk ?_ ?_; focus ((repeat' (first | exact trivial | exact wkE_refl _ | refine And.intro ?_ ?_)); done)) | refine RdN.intro _ rfl (by rfl) ?_); (conv => whnf))))
    refine EffW.appTo (i := 0) (q := i) (ys := [_]) (u8s ((sw l i).set i (l.getD (l.length - 1 - i) 0))) 1 rfl (ptr_lit rfl (by show (i : Int).toNat * 1 = i; omega)) rfl rfl rfl rfl rfl (by show i + 1 ≤ l.length * 1; omega) (u8s_put _ (by omega)) rfl ?_
    ((conv => whnf); (repeat ((first | refine BoxN.own ?_ | refine RwN.own ?_ | refine VrN.norm (wrap_i64 (by omega)) ?_ | refine VrN.keep ?_ | refine DrawN.calm (by decide +kernel) ?_ | refine Nd.mk (by decide +kernel) ?_ | refine Nd.mk (by omega) ?_ | (refine Nd.mk ?_ ?_; focus ((repeat' (first | exact trivial | exact wkE_refl _ | refine And.intro ?_ ?_)); done)) | refine RdN.intro _ rfl (by rfl) ?_); (conv => whnf))))
    refine Nd.mk ⟨rfl, by omega, by omega⟩ ?_
    ((conv => whnf); (repeat ((first | refine BoxN.own ?_ | refine RwN.own ?_ | refine VrN.norm (wrap_i64 (by omega)) ?_ | refine VrN.keep ?_ | refine DrawN.calm (by decide +kernel) ?_ | refine Nd.mk (by decide +kernel) ?_ | refine Nd.mk (by omega) ?_ | (refine Nd.mk ?_ ?_; focus ((repeat' (first | exact trivial | exact wkE_refl _ | refine And.intro ?_ ?_)); done)) | refine RdN.intro _ rfl (by rfl) ?_); (conv => whnf))))
    refine EffW.appTo (i := 0) (q := l.length - 1 - i) (ys := [_]) (u8s (sw l (i + 1))) 1 rfl (ptr_lit rfl (by show ((l.length : Int) - 1 - i).toNat * 1 = l.length - 1 - i; omega)) rfl rfl rfl rfl rfl (by show l.length - 1 - i + 1 ≤ l.length * 1; omega) (by rw [← hst]; exact u8s_put _ (by simp; omega)) rfl ?_
    ((conv => whnf); (repeat ((first | refine BoxN.own ?_ | refine RwN.own ?_ | refine VrN.norm (wrap_i64 (by omega)) ?_ | refine VrN.keep ?_ | refine DrawN.calm (by decide +kernel) ?_ | refine Nd.mk (by decide +kernel) ?_ | refine Nd.mk (by omega) ?_ | (refine Nd.mk ?_ ?_; focus ((repeat' (first | exact trivial | exact wkE_refl _ | refine And.intro ?_ ?_)); done)) | refine RdN.intro _ rfl (by rfl) ?_); (conv => whnf))))
    refine ⟨i + 1, by omega, by omega, ?_, by (repeat' (first | exact trivial | exact wkE_refl _ | refine And.intro ?_ ?_))⟩
    (repeat' (first | exact trivial | refine And.intro (by with_reducible rfl) ?_ | (with_reducible exact wkC_refl _) | (with_reducible exact wkCs_refl _) | refine And.intro ?_ ?_))
    all_goals exact av_int (by omega)
  · rw [sw_end l i (by omega)]
    ((conv => whnf); (repeat ((first | refine BoxN.own ?_ | refine RwN.own ?_ | refine VrN.norm (wrap_i64 (by omega)) ?_ | refine VrN.keep ?_ | refine DrawN.calm (by decide +kernel) ?_ | refine Nd.mk (by decide +kernel) ?_ | refine Nd.mk (by omega) ?_ | (refine Nd.mk ?_ ?_; focus ((repeat' (first | exact trivial | exact wkE_refl _ | refine And.intro ?_ ?_)); done)) | refine RdN.intro _ rfl (by rfl) ?_); (conv => whnf))))
    have e : own l.reverse b cap = .app 5 1 (u8s l.reverse) (some ⟨b, 0, none⟩) l.length cap := by unfold own; rw [List.length_reverse]
    rw [e]
    exact ⟨(), trivial, rfl, wkH_refl _⟩
end Go.Proofs.YtjkchonpnocffaaDoor

/-
  Contract: groups of 7 bits (program).
-/
namespace Go.Proofs.YtjkchonpnocffaaDoor
open Go.AX Go.RowKit Go.Pack
set_option maxRecDepth 20000

/-- Bytes in memory that nobody writes. -/
def BytesR (l : List UInt8) (v : Value) (G : World → Prop) : Prop := ∃ ob cap, v = .slice (at0 ob) l.length cap ∧ (ob = none → l = []) ∧ ∀ w, G w → SlAt (at0 ob) l.length (u8s l) w
theorem bytesR_own (l : List UInt8) (b cap : Nat) : BytesR l (.slice (some ⟨b, 0, none⟩) l.length cap) (SlAt (some ⟨b, 0, none⟩) (l.length * 1) (u8s l)) :=
  ⟨some b, cap, rfl, fun h => (by cases h), fun w hw => (by rw [Nat.mul_one] at hw; exact hw)⟩
theorem sevR_zero : ∀ f, sevR f 0 = []
  | 0 => rfl
  | f + 1 => by unfold sevR; rw [if_pos rfl]
theorem ofNat_int {n : Nat} (h : n < 256) : ((UInt8.ofNat n).toNat : Int) = n := by
  rw [UInt8.toNat_ofNat', Nat.mod_eq_of_lt (by simpa using h)]
theorem sevens_c (n : Nat) (hn : n < 9223372036854775808) : SpecF Tryd.prog 107 [.int .i64 (n : Int)] (fun _ => True) (BytesR (sevens n)) := by
  refine specF hm Tryd.func107 (by kernel_rfl) rfl rfl ?_
  have e1 : (n : Int).tdiv 128 = ((n / 128 : Nat) : Int) := (Int.ofNat_tdiv n 128).symm
  have e2 : (n : Int).tmod 128 = ((n % 128 : Nat) : Int) := (Int.ofNat_tmod n 128).symm
  (conv => whnf)
  refine RwN.known [_] rfl fun b0 => ?_
  ((conv => whnf); (repeat ((first | refine BoxN.own ?_ | refine RwN.own ?_ | refine VrN.norm (wrap_i64 (by omega)) ?_ | refine VrN.keep ?_ | refine DrawN.calm (by decide +kernel) ?_ | refine Nd.mk (by decide +kernel) ?_ | refine Nd.mk (by omega) ?_ | (refine Nd.mk ?_ ?_; focus ((repeat' (first | exact trivial | exact wkE_refl _ | refine And.intro ?_ ?_)); done)) | refine RdN.intro _ rfl (by rfl) ?_); (conv => whnf))))
  refine LoopN.intro (List UInt8 × Nat × Nat × Nat × Nat) (fun ⟨l, m, f, _, _⟩ => l ++ sevR f m = (sevens n).reverse ∧ m < 128 ^ f ∧ l.length + f ≤ 11 ∧ m < 9223372036854775808)
    (fun ⟨l, m, _, b, cap⟩ => mkS Tryd.f107.ntmps 0 [(0, .c (.v (.int .i64 (m : Int)))), (3, .c (.v (.slice (some ⟨b, 0, none⟩) l.length cap)))])
    (fun ⟨l, _, _, b, cap⟩ => [.fact fun _ => True, own l b cap]) (fun ⟨_, _, f, _, _⟩ => f) [] rfl
    (fun _ => rfl) (fun _ => rfl) (fun _ _ => okHB_eq rfl) ⟨([UInt8.ofNat (n % 128)], n / 128, 10, b0, 1), ⟨?_, ?_, ?_, ?_⟩, ?_, ?_⟩ ?_
  · simp [sevens]
  · have : n / 128 < 128 ^ 9 := by omega
    omega
  · simp
  · omega
  · (repeat' (first | exact trivial | refine And.intro (by with_reducible rfl) ?_ | (with_reducible exact wkC_refl _) | (with_reducible exact wkCs_refl _) | refine And.intro ?_ ?_))
    all_goals first | rfl | exact av_int (by rw [e1, wrap_i64 (by omega)])
  · exact ⟨wkE_refl _, .inl ⟨rfl, rfl, by rw [e2, wrap_u8 (by omega)]; show [_] = [Value.int .u8 ((UInt8.ofNat (n % 128)).toNat : Int)]; rw [ofNat_int (by omega)], rfl, rfl, rfl⟩, wkH_nil _⟩
  rintro ⟨l, m, f, b, cap⟩ ⟨hl, hm1, hlf, hm2⟩
  ((conv => whnf); (repeat ((first | refine BoxN.own ?_ | refine RwN.own ?_ | refine VrN.norm (wrap_i64 (by omega)) ?_ | refine VrN.keep ?_ | refine DrawN.calm (by decide +kernel) ?_ | refine Nd.mk (by decide +kernel) ?_ | refine Nd.mk (by omega) ?_ | (refine Nd.mk ?_ ?_; focus ((repeat' (first | exact trivial | exact wkE_refl _ | refine And.intro ?_ ?_)); done)) | refine RdN.intro _ rfl (by rfl) ?_); (conv => whnf))))
  refine brd_dec (fun h => ?_) (fun h => ?_)
  · cases f with
    | zero => omega
    | succ f =>
      have e3 : (m : Int).tdiv 128 = ((m / 128 : Nat) : Int) := (Int.ofNat_tdiv m 128).symm
      have e4 : (m : Int).tmod 128 = ((m % 128 : Nat) : Int) := (Int.ofNat_tmod m 128).symm
      have hs : sevR (f + 1) m = UInt8.ofNat (m % 128 + 128) :: sevR f (m / 128) := by
        conv => lhs; unfold sevR
        rw [if_neg (by omega)]
      rw [hs] at hl
      ((conv => whnf); (repeat ((first | refine BoxN.own ?_ | refine RwN.own ?_ | refine VrN.norm (wrap_i64 (by omega)) ?_ | refine VrN.keep ?_ | refine DrawN.calm (by decide +kernel) ?_ | refine Nd.mk (by decide +kernel) ?_ | refine Nd.mk (by omega) ?_ | (refine Nd.mk ?_ ?_; focus ((repeat' (first | exact trivial | exact wkE_refl _ | refine And.intro ?_ ?_)); done)) | refine RdN.intro _ rfl (by rfl) ?_); (conv => whnf))))
      refine Nd.mk ⟨Nat.le_refl 1, rfl, rfl⟩ ?_
      (conv => whnf)
      refine AppN.grow 1 (u8s l) [_] rfl rfl ⟨Nat.le_refl 1, ⟨by show (l.length + 1) * 1 ≤ _; omega, by omega⟩, by show 1 ≠ 0; omega⟩ fun b' cap' h1 h2 => ?_
      ((conv => whnf); (repeat ((first | refine BoxN.own ?_ | refine RwN.own ?_ | refine VrN.norm (wrap_i64 (by omega)) ?_ | refine VrN.keep ?_ | refine DrawN.calm (by decide +kernel) ?_ | refine Nd.mk (by decide +kernel) ?_ | refine Nd.mk (by omega) ?_ | (refine Nd.mk ?_ ?_; focus ((repeat' (first | exact trivial | exact wkE_refl _ | refine And.intro ?_ ?_)); done)) | refine RdN.intro _ rfl (by rfl) ?_); (conv => whnf))))
      refine ⟨(l ++ [UInt8.ofNat (m % 128 + 128)], m / 128, f, b', cap'), ⟨by rw [← hl]; simp, by rw [Nat.pow_succ, Nat.mul_comm] at hm1; exact Nat.div_lt_of_lt_mul hm1, by simp; omega, by omega⟩, by show f < f + 1; omega, ?_, ?_⟩
      · (repeat' (first | exact trivial | refine And.intro (by with_reducible rfl) ?_ | (with_reducible exact wkC_refl _) | (with_reducible exact wkCs_refl _) | refine And.intro ?_ ?_))
        all_goals first | (simp; done) | exact av_int (by rw [e3, wrap_i64 (by omega)])
      · exact ⟨wkE_refl _, .inl ⟨rfl, rfl, by rw [e4, wrap_i64 (by omega), wrap_u8 (by omega)]; simp [u8s]; omega, rfl, by simp, rfl⟩, wkH_nil _⟩
  · have hm0 : m = 0 := by omega
    subst hm0
    rw [sevR_zero, List.append_nil] at hl
    ((conv => whnf); (repeat ((first | refine BoxN.own ?_ | refine RwN.own ?_ | refine VrN.norm (wrap_i64 (by omega)) ?_ | refine VrN.keep ?_ | refine DrawN.calm (by decide +kernel) ?_ | refine Nd.mk (by decide +kernel) ?_ | refine Nd.mk (by omega) ?_ | (refine Nd.mk ?_ ?_; focus ((repeat' (first | exact trivial | exact wkE_refl _ | refine And.intro ?_ ?_)); done)) | refine RdN.intro _ rfl (by rfl) ?_); (conv => whnf))))
    refine callG (Reverse_c l b cap (by omega)) [1] rfl ⟨rfl, trivial⟩ rfl fun _ _ => ?_
    ((conv => whnf); (repeat ((first | refine BoxN.own ?_ | refine RwN.own ?_ | refine VrN.norm (wrap_i64 (by omega)) ?_ | refine VrN.keep ?_ | refine DrawN.calm (by decide +kernel) ?_ | refine Nd.mk (by decide +kernel) ?_ | refine Nd.mk (by omega) ?_ | (refine Nd.mk ?_ ?_; focus ((repeat' (first | exact trivial | exact wkE_refl _ | refine And.intro ?_ ?_)); done)) | refine RdN.intro _ rfl (by rfl) ?_); (conv => whnf))))
    have hr : sevens n = l.reverse := by rw [hl, List.reverse_reverse]
    rw [hr, show Value.slice (some ⟨b, 0, none⟩) l.length cap = Value.slice (some ⟨b, 0, none⟩) l.reverse.length cap by rw [List.length_reverse]]
    exact fin_p (SlAt (some ⟨b, 0, none⟩) (l.reverse.length * 1) (u8s l.reverse)) (bytesR_own _ _ _) (fun w hw => hw.2.1)
end Go.Proofs.YtjkchonpnocffaaDoor

/-
  Contract: a character as utf-8 (utf8.AppendRune).
-/
namespace Go.Proofs.YtjkchonpnocffaaDoor
open Go.AX Go.RowKit Go.Pack
set_option maxRecDepth 20000

theorem bytesR_cells {l : List UInt8} {b cap k : Nat} {xs : List Value} (hk : k = l.length) (hx : xs = u8s l) : BytesR l (.slice (some ⟨b, 0, none⟩) k cap) (SlAt (some ⟨b, 0, none⟩) (k * 1) xs) := by
  subst hk hx
  exact bytesR_own l b cap
theorem w8 (m : Nat) : IntKind.u8.wrap (m : Int) = ((m % 256 : Nat) : Int) := by
  show ((m : Int)) % 256 = _
  omega
theorem shr6 (n : Nat) : (n : Int).fdiv (2 ^ min (Int.toNat 6) IntKind.i32.bits) = ((n / 64 : Nat) : Int) := by
  show (n : Int).fdiv 64 = _
  rw [Int.fdiv_eq_ediv_of_nonneg _ (by omega)]
  rfl
theorem shr12 (n : Nat) : (n : Int).fdiv (2 ^ min (Int.toNat 12) IntKind.i32.bits) = ((n / 4096 : Nat) : Int) := by
  show (n : Int).fdiv 4096 = _
  rw [Int.fdiv_eq_ediv_of_nonneg _ (by omega)]
  rfl
theorem shr18 (n : Nat) : (n : Int).fdiv (2 ^ min (Int.toNat 18) IntKind.i32.bits) = ((n / 262144 : Nat) : Int) := by
  show (n : Int).fdiv 262144 = _
  rw [Int.fdiv_eq_ediv_of_nonneg _ (by omega)]
  rfl
theorem tailF : ∀ y : Fin 256, IntKind.u8.wrap ((BitVec.ofInt 8 128 ||| BitVec.ofInt 8 (IntKind.u8.wrap ((BitVec.ofInt 8 (y.val : Int) &&& BitVec.ofInt 8 63).toNat : Int))).toNat : Int) = ((128 + y.val % 64 : Nat) : Int) := by decide +kernel
theorem tailB (m : Nat) : IntKind.u8.wrap ((BitVec.ofInt IntKind.u8.bits 128 ||| BitVec.ofInt IntKind.u8.bits (IntKind.u8.wrap ((BitVec.ofInt IntKind.u8.bits (IntKind.u8.wrap (m : Int)) &&& BitVec.ofInt IntKind.u8.bits 63).toNat : Int))).toNat : Int) = ((128 + m % 64 : Nat) : Int) := by
  rw [w8]
  have := tailF ⟨m % 256, by omega⟩
  rw [show m % 64 = m % 256 % 64 by omega]
  exact this
theorem leadF : ∀ y : Fin 32, IntKind.u8.wrap ((BitVec.ofInt 8 192 ||| BitVec.ofInt 8 (IntKind.u8.wrap (y.val : Int))).toNat : Int) = ((192 + y.val : Nat) : Int) := by decide +kernel
theorem lead2 {m : Nat} (h : m < 32) : IntKind.u8.wrap ((BitVec.ofInt IntKind.u8.bits 192 ||| BitVec.ofInt IntKind.u8.bits (IntKind.u8.wrap (m : Int))).toNat : Int) = ((192 + m : Nat) : Int) := leadF ⟨m, h⟩
theorem leadG : ∀ y : Fin 16, IntKind.u8.wrap ((BitVec.ofInt 8 224 ||| BitVec.ofInt 8 (IntKind.u8.wrap (y.val : Int))).toNat : Int) = ((224 + y.val : Nat) : Int) := by decide +kernel
theorem lead3 {m : Nat} (h : m < 16) : IntKind.u8.wrap ((BitVec.ofInt IntKind.u8.bits 224 ||| BitVec.ofInt IntKind.u8.bits (IntKind.u8.wrap (m : Int))).toNat : Int) = ((224 + m : Nat) : Int) := leadG ⟨m, h⟩
theorem leadH : ∀ y : Fin 8, IntKind.u8.wrap ((BitVec.ofInt 8 240 ||| BitVec.ofInt 8 (IntKind.u8.wrap (y.val : Int))).toNat : Int) = ((240 + y.val : Nat) : Int) := by decide +kernel
theorem lead4 {m : Nat} (h : m < 8) : IntKind.u8.wrap ((BitVec.ofInt IntKind.u8.bits 240 ||| BitVec.ofInt IntKind.u8.bits (IntKind.u8.wrap (m : Int))).toNat : Int) = ((240 + m : Nat) : Int) := leadH ⟨m, h⟩
theorem byteV {n : Nat} (h : n < 256) : Value.int .u8 ((n : Nat) : Int) = .int .u8 ((UInt8.ofNat n).toNat : Int) := by rw [ofNat_int h]
theorem AppendNon_c (z : Int) (n : Nat) (hzn : z = n) (h1 : 128 ≤ n) (h2 : rune (n : Int) = true) : SpecF Tryd.prog 118 [.slice none 0 0, .int .i32 z] (fun _ => True) (BytesR (utf n)) := by
  have hr : n ≤ 1114111 ∧ (n < 55296 ∨ 57343 < n) := by
    unfold rune at h2
    simp only [Bool.and_eq_true, Bool.or_eq_true, decide_eq_true_eq] at h2
    omega
  have hw : IntKind.u32.wrap z = z := by
    show z % 4294967296 = z
    omega
  refine specF hm Tryd.func118 (by kernel_rfl) rfl rfl ?_
  ((conv => whnf); (repeat ((first | refine BoxN.own ?_ | refine RwN.own ?_ | refine VrN.norm (wrap_i64 (by omega)) ?_ | refine VrN.keep ?_ | refine DrawN.calm (by decide +kernel) ?_ | refine Nd.mk (by decide +kernel) ?_ | refine Nd.mk (by omega) ?_ | (refine Nd.mk ?_ ?_; focus ((repeat' (first | exact trivial | exact wkE_refl _ | refine And.intro ?_ ?_)); done)) | refine RdN.intro _ rfl (by rfl) ?_); (conv => whnf))))
  rw [hw]
  refine brd_dec (fun h3 => ?_) (fun h3 => ?_)
  · have hu : utf n = [UInt8.ofNat (192 + n / 64), UInt8.ofNat (128 + n % 64)] := by unfold utf; rw [if_neg (by omega), if_pos (by omega)]
    ((conv => whnf); (repeat ((first | refine BoxN.own ?_ | refine RwN.own ?_ | refine VrN.norm (wrap_i64 (by omega)) ?_ | refine VrN.keep ?_ | refine DrawN.calm (by decide +kernel) ?_ | refine Nd.mk (by decide +kernel) ?_ | refine Nd.mk (by omega) ?_ | (refine Nd.mk ?_ ?_; focus ((repeat' (first | exact trivial | exact wkE_refl _ | refine And.intro ?_ ?_)); done)) | refine RdN.intro _ rfl (by rfl) ?_); (conv => whnf))))
    refine Nd.mk ⟨Nat.le_refl 2, rfl, rfl⟩ ?_
    (conv => whnf)
    refine AppN.new [_, _] ⟨rfl, rfl, rfl⟩ rfl ⟨by omega, ⟨by show (0 + 2) * 1 ≤ _; omega, by omega⟩, by show 1 ≠ 0; omega⟩ fun b cap' _ _ => ?_
    ((conv => whnf); (repeat ((first | refine BoxN.own ?_ | refine RwN.own ?_ | refine VrN.norm (wrap_i64 (by omega)) ?_ | refine VrN.keep ?_ | refine DrawN.calm (by decide +kernel) ?_ | refine Nd.mk (by decide +kernel) ?_ | refine Nd.mk (by omega) ?_ | (refine Nd.mk ?_ ?_; focus ((repeat' (first | exact trivial | exact wkE_refl _ | refine And.intro ?_ ?_)); done)) | refine RdN.intro _ rfl (by rfl) ?_); (conv => whnf))))
    rw [hu]
    refine fin_p _ (bytesR_cells rfl ?_) (fun w hw => hw.2.1)
    rw [hzn, shr6, lead2 (by omega), tailB, ← ofNat_int (show 192 + n / 64 < 256 by omega), ← ofNat_int (show 128 + n % 64 < 256 by omega)]
    rfl
  have h16 : n < 65536 → utf n = [UInt8.ofNat (224 + n / 4096), UInt8.ofNat (128 + n / 64 % 64), UInt8.ofNat (128 + n % 64)] := fun h => by unfold utf; rw [if_neg (by omega), if_neg (by omega), if_pos h]
  ((conv => whnf); (repeat ((first | refine BoxN.own ?_ | refine RwN.own ?_ | refine VrN.norm (wrap_i64 (by omega)) ?_ | refine VrN.keep ?_ | refine DrawN.calm (by decide +kernel) ?_ | refine Nd.mk (by decide +kernel) ?_ | refine Nd.mk (by omega) ?_ | (refine Nd.mk ?_ ?_; focus ((repeat' (first | exact trivial | exact wkE_refl _ | refine And.intro ?_ ?_)); done)) | refine RdN.intro _ rfl (by rfl) ?_); (conv => whnf))))
  refine brd_dec (fun h4 => ?_) (fun h4 => ?_)
  ·
    ((conv => whnf); (repeat ((first | refine BoxN.own ?_ | refine RwN.own ?_ | refine VrN.norm (wrap_i64 (by omega)) ?_ | refine VrN.keep ?_ | refine DrawN.calm (by decide +kernel) ?_ | refine Nd.mk (by decide +kernel) ?_ | refine Nd.mk (by omega) ?_ | (refine Nd.mk ?_ ?_; focus ((repeat' (first | exact trivial | exact wkE_refl _ | refine And.intro ?_ ?_)); done)) | refine RdN.intro _ rfl (by rfl) ?_); (conv => whnf))))
    refine Nd.mk ⟨Nat.le_refl 3, rfl, rfl⟩ ?_
    (conv => whnf)
    refine AppN.new [_, _, _] ⟨rfl, rfl, rfl⟩ rfl ⟨by omega, ⟨by show (0 + 3) * 1 ≤ _; omega, by omega⟩, by show 1 ≠ 0; omega⟩ fun b cap' _ _ => ?_
    ((conv => whnf); (repeat ((first | refine BoxN.own ?_ | refine RwN.own ?_ | refine VrN.norm (wrap_i64 (by omega)) ?_ | refine VrN.keep ?_ | refine DrawN.calm (by decide +kernel) ?_ | refine Nd.mk (by decide +kernel) ?_ | refine Nd.mk (by omega) ?_ | (refine Nd.mk ?_ ?_; focus ((repeat' (first | exact trivial | exact wkE_refl _ | refine And.intro ?_ ?_)); done)) | refine RdN.intro _ rfl (by rfl) ?_); (conv => whnf))))
    rw [h16 (by omega)]
    refine fin_p _ (bytesR_cells rfl ?_) (fun w hw => hw.2.1)
    rw [hzn, shr12, shr6, lead3 (by omega), tailB, tailB, ← ofNat_int (show 224 + n / 4096 < 256 by omega), ← ofNat_int (show 128 + n / 64 % 64 < 256 by omega), ← ofNat_int (show 128 + n % 64 < 256 by omega)]
    rfl
  · ((conv => whnf); (repeat ((first | refine BoxN.own ?_ | refine RwN.own ?_ | refine VrN.norm (wrap_i64 (by omega)) ?_ | refine VrN.keep ?_ | refine DrawN.calm (by decide +kernel) ?_ | refine Nd.mk (by decide +kernel) ?_ | refine Nd.mk (by omega) ?_ | (refine Nd.mk ?_ ?_; focus ((repeat' (first | exact trivial | exact wkE_refl _ | refine And.intro ?_ ?_)); done)) | refine RdN.intro _ rfl (by rfl) ?_); (conv => whnf))))
    refine brd_dec (fun h5 => ?_) (fun h5 => absurd h5 (by omega))
    ((conv => whnf); (repeat ((first | refine BoxN.own ?_ | refine RwN.own ?_ | refine VrN.norm (wrap_i64 (by omega)) ?_ | refine VrN.keep ?_ | refine DrawN.calm (by decide +kernel) ?_ | refine Nd.mk (by decide +kernel) ?_ | refine Nd.mk (by omega) ?_ | (refine Nd.mk ?_ ?_; focus ((repeat' (first | exact trivial | exact wkE_refl _ | refine And.intro ?_ ?_)); done)) | refine RdN.intro _ rfl (by rfl) ?_); (conv => whnf))))
    refine brd_dec (fun h6 => ?_) (fun h6 => ?_)
    ·
      ((conv => whnf); (repeat ((first | refine BoxN.own ?_ | refine RwN.own ?_ | refine VrN.norm (wrap_i64 (by omega)) ?_ | refine VrN.keep ?_ | refine DrawN.calm (by decide +kernel) ?_ | refine Nd.mk (by decide +kernel) ?_ | refine Nd.mk (by omega) ?_ | (refine Nd.mk ?_ ?_; focus ((repeat' (first | exact trivial | exact wkE_refl _ | refine And.intro ?_ ?_)); done)) | refine RdN.intro _ rfl (by rfl) ?_); (conv => whnf))))
      refine Nd.mk ⟨Nat.le_refl 3, rfl, rfl⟩ ?_
      (conv => whnf)
      refine AppN.new [_, _, _] ⟨rfl, rfl, rfl⟩ rfl ⟨by omega, ⟨by show (0 + 3) * 1 ≤ _; omega, by omega⟩, by show 1 ≠ 0; omega⟩ fun b cap' _ _ => ?_
      ((conv => whnf); (repeat ((first | refine BoxN.own ?_ | refine RwN.own ?_ | refine VrN.norm (wrap_i64 (by omega)) ?_ | refine VrN.keep ?_ | refine DrawN.calm (by decide +kernel) ?_ | refine Nd.mk (by decide +kernel) ?_ | refine Nd.mk (by omega) ?_ | (refine Nd.mk ?_ ?_; focus ((repeat' (first | exact trivial | exact wkE_refl _ | refine And.intro ?_ ?_)); done)) | refine RdN.intro _ rfl (by rfl) ?_); (conv => whnf))))
      rw [h16 (by omega)]
      refine fin_p _ (bytesR_cells rfl ?_) (fun w hw => hw.2.1)
      rw [hzn, shr12, shr6, lead3 (by omega), tailB, tailB, ← ofNat_int (show 224 + n / 4096 < 256 by omega), ← ofNat_int (show 128 + n / 64 % 64 < 256 by omega), ← ofNat_int (show 128 + n % 64 < 256 by omega)]
      rfl
    · have hu : utf n = [UInt8.ofNat (240 + n / 262144), UInt8.ofNat (128 + n / 4096 % 64), UInt8.ofNat (128 + n / 64 % 64), UInt8.ofNat (128 + n % 64)] := by unfold utf; rw [if_neg (by omega), if_neg (by omega), if_neg (by omega)]
      ((conv => whnf); (repeat ((first | refine BoxN.own ?_ | refine RwN.own ?_ | refine VrN.norm (wrap_i64 (by omega)) ?_ | refine VrN.keep ?_ | refine DrawN.calm (by decide +kernel) ?_ | refine Nd.mk (by decide +kernel) ?_ | refine Nd.mk (by omega) ?_ | (refine Nd.mk ?_ ?_; focus ((repeat' (first | exact trivial | exact wkE_refl _ | refine And.intro ?_ ?_)); done)) | refine RdN.intro _ rfl (by rfl) ?_); (conv => whnf))))
      refine brd_dec (fun h7 => ?_) (fun h7 => absurd h7 (by omega))
      ((conv => whnf); (repeat ((first | refine BoxN.own ?_ | refine RwN.own ?_ | refine VrN.norm (wrap_i64 (by omega)) ?_ | refine VrN.keep ?_ | refine DrawN.calm (by decide +kernel) ?_ | refine Nd.mk (by decide +kernel) ?_ | refine Nd.mk (by omega) ?_ | (refine Nd.mk ?_ ?_; focus ((repeat' (first | exact trivial | exact wkE_refl _ | refine And.intro ?_ ?_)); done)) | refine RdN.intro _ rfl (by rfl) ?_); (conv => whnf))))
      refine brd_dec (fun h8 => ?_) (fun h8 => absurd h8 (by omega))
      ((conv => whnf); (repeat ((first | refine BoxN.own ?_ | refine RwN.own ?_ | refine VrN.norm (wrap_i64 (by omega)) ?_ | refine VrN.keep ?_ | refine DrawN.calm (by decide +kernel) ?_ | refine Nd.mk (by decide +kernel) ?_ | refine Nd.mk (by omega) ?_ | (refine Nd.mk ?_ ?_; focus ((repeat' (first | exact trivial | exact wkE_refl _ | refine And.intro ?_ ?_)); done)) | refine RdN.intro _ rfl (by rfl) ?_); (conv => whnf))))
      refine Nd.mk ⟨Nat.le_refl 4, rfl, rfl⟩ ?_
      (conv => whnf)
      refine AppN.new [_, _, _, _] ⟨rfl, rfl, rfl⟩ rfl ⟨by omega, ⟨by show (0 + 4) * 1 ≤ _; omega, by omega⟩, by show 1 ≠ 0; omega⟩ fun b cap' _ _ => ?_
      ((conv => whnf); (repeat ((first | refine BoxN.own ?_ | refine RwN.own ?_ | refine VrN.norm (wrap_i64 (by omega)) ?_ | refine VrN.keep ?_ | refine DrawN.calm (by decide +kernel) ?_ | refine Nd.mk (by decide +kernel) ?_ | refine Nd.mk (by omega) ?_ | (refine Nd.mk ?_ ?_; focus ((repeat' (first | exact trivial | exact wkE_refl _ | refine And.intro ?_ ?_)); done)) | refine RdN.intro _ rfl (by rfl) ?_); (conv => whnf))))
      rw [hu]
      refine fin_p _ (bytesR_cells rfl ?_) (fun w hw => hw.2.1)
      rw [hzn, shr18, shr12, shr6, lead4 (by omega), tailB, tailB, tailB, ← ofNat_int (show 240 + n / 262144 < 256 by omega), ← ofNat_int (show 128 + n / 4096 % 64 < 256 by omega), ← ofNat_int (show 128 + n / 64 % 64 < 256 by omega), ← ofNat_int (show 128 + n % 64 < 256 by omega)]
      rfl
theorem AppendRune_c (z : Int) (n : Nat) (hzn : z = n) (h2 : rune (n : Int) = true) : SpecF Tryd.prog 109 [.slice none 0 0, .int .i32 z] (fun _ => True) (BytesR (utf n)) := by
  have hr : n ≤ 1114111 ∧ (n < 55296 ∨ 57343 < n) := by
    unfold rune at h2
    simp only [Bool.and_eq_true, Bool.or_eq_true, decide_eq_true_eq] at h2
    omega
  have hw : IntKind.u32.wrap z = z := by
    show z % 4294967296 = z
    omega
  refine specF hm Tryd.func109 (by kernel_rfl) rfl rfl ?_
  ((conv => whnf); (repeat ((first | refine BoxN.own ?_ | refine RwN.own ?_ | refine VrN.norm (wrap_i64 (by omega)) ?_ | refine VrN.keep ?_ | refine DrawN.calm (by decide +kernel) ?_ | refine Nd.mk (by decide +kernel) ?_ | refine Nd.mk (by omega) ?_ | (refine Nd.mk ?_ ?_; focus ((repeat' (first | exact trivial | exact wkE_refl _ | refine And.intro ?_ ?_)); done)) | refine RdN.intro _ rfl (by rfl) ?_); (conv => whnf))))
  rw [hw]
  refine brd_dec (fun h3 => ?_) (fun h3 => ?_)
  · have hu : utf n = [UInt8.ofNat n] := by unfold utf; rw [if_pos (by omega)]
    ((conv => whnf); (repeat ((first | refine BoxN.own ?_ | refine RwN.own ?_ | refine VrN.norm (wrap_i64 (by omega)) ?_ | refine VrN.keep ?_ | refine DrawN.calm (by decide +kernel) ?_ | refine Nd.mk (by decide +kernel) ?_ | refine Nd.mk (by omega) ?_ | (refine Nd.mk ?_ ?_; focus ((repeat' (first | exact trivial | exact wkE_refl _ | refine And.intro ?_ ?_)); done)) | refine RdN.intro _ rfl (by rfl) ?_); (conv => whnf))))
    refine Nd.mk ⟨Nat.le_refl 1, rfl, rfl⟩ ?_
    (conv => whnf)
    refine AppN.new [_] ⟨rfl, rfl, rfl⟩ rfl ⟨by omega, ⟨by show (0 + 1) * 1 ≤ _; omega, by omega⟩, by show 1 ≠ 0; omega⟩ fun b cap' _ _ => ?_
    ((conv => whnf); (repeat ((first | refine BoxN.own ?_ | refine RwN.own ?_ | refine VrN.norm (wrap_i64 (by omega)) ?_ | refine VrN.keep ?_ | refine DrawN.calm (by decide +kernel) ?_ | refine Nd.mk (by decide +kernel) ?_ | refine Nd.mk (by omega) ?_ | (refine Nd.mk ?_ ?_; focus ((repeat' (first | exact trivial | exact wkE_refl _ | refine And.intro ?_ ?_)); done)) | refine RdN.intro _ rfl (by rfl) ?_); (conv => whnf))))
    rw [hu]
    refine fin_p _ (bytesR_cells rfl ?_) (fun w hw => hw.2.1)
    rw [hzn, w8, ← ofNat_int (show n % 256 < 256 by omega), Nat.mod_eq_of_lt (show n < 256 by omega)]
    rfl
  · ((conv => whnf); (repeat ((first | refine BoxN.own ?_ | refine RwN.own ?_ | refine VrN.norm (wrap_i64 (by omega)) ?_ | refine VrN.keep ?_ | refine DrawN.calm (by decide +kernel) ?_ | refine Nd.mk (by decide +kernel) ?_ | refine Nd.mk (by omega) ?_ | (refine Nd.mk ?_ ?_; focus ((repeat' (first | exact trivial | exact wkE_refl _ | refine And.intro ?_ ?_)); done)) | refine RdN.intro _ rfl (by rfl) ?_); (conv => whnf))))
    refine SpecF.call (AppendNon_c z n hzn (by omega) h2) (fun w _ => trivial) fun v G hR => ?_
    obtain ⟨ob, cap, rfl, h5, h6⟩ := hR
    ((conv => whnf); (repeat ((first | refine BoxN.own ?_ | refine RwN.own ?_ | refine VrN.norm (wrap_i64 (by omega)) ?_ | refine VrN.keep ?_ | refine DrawN.calm (by decide +kernel) ?_ | refine Nd.mk (by decide +kernel) ?_ | refine Nd.mk (by omega) ?_ | (refine Nd.mk ?_ ?_; focus ((repeat' (first | exact trivial | exact wkE_refl _ | refine And.intro ?_ ?_)); done)) | refine RdN.intro _ rfl (by rfl) ?_); (conv => whnf))))
    exact fin_p G ⟨ob, cap, rfl, h5, h6⟩ (fun w hw => hw.2.1)
end Go.Proofs.YtjkchonpnocffaaDoor

/-
  Contract: a number is written (program).
-/
namespace Go.Proofs.YtjkchonpnocffaaDoor
open Go.AX Go.RowKit Go.Pack
set_option maxRecDepth 20000

/-- Bytes and no error, or an error. -/
def WrR (r : Except Int (List UInt8)) (v : Value) (G : World → Prop) : Prop := match r with
  | .error e => v = .tuple #[.slice none 0 0, .int .i64 e]
  | .ok l => ∃ x, v = .tuple #[x, .int .i64 0] ∧ BytesR l x G
theorem ValidRune_c (z : Int) : ∀ H, SpecH Tryd.prog 108 (pvs [.int .i32 z]) H (Ret (.bool (Lib.validRune z)) H) := fun H =>
  SpecH.rawP (R := fun r => r = .bool (Lib.validRune z)) (callOk Tryd.func108 (by kernel_rfl) rfl)
    (fun w _ => (Tryd.utf8_ValidRune z w).mono fun e w' ⟨he, hw⟩ => ⟨_, he, rfl, by subst hw; exact Below.refl _ _⟩) fun r hr => by subst hr; exact ⟨rfl, rfl⟩
theorem number_w (b : Bool) (k n : Int) (hn : -9223372036854775808 ≤ n ∧ n < 9223372036854775808) : SpecF Tryd.prog 91 [dirV ⟨119, b, k⟩, .int .i64 n] (fun _ => True) (WrR (numS ⟨119, b, k⟩ n)) := by
  have hN : numS ⟨119, b, k⟩ n = if n < 0 then .error 5 else .ok (sevens n.toNat) := rfl
  refine specF hm Tryd.func91 (by kernel_rfl) rfl rfl ?_
  ((conv => whnf); (repeat ((first | refine BoxN.own ?_ | refine RwN.own ?_ | refine VrN.norm (wrap_i64 (by omega)) ?_ | refine VrN.keep ?_ | refine DrawN.calm (by decide +kernel) ?_ | refine Nd.mk (by decide +kernel) ?_ | refine Nd.mk (by omega) ?_ | (refine Nd.mk ?_ ?_; focus ((repeat' (first | exact trivial | exact wkE_refl _ | refine And.intro ?_ ?_)); done)) | refine RdN.intro _ rfl (by rfl) ?_); (conv => whnf))))
  refine brd_dec (fun h1 => ?_) (fun h1 => ?_)
  · rw [hN, if_pos h1]
    ((conv => whnf); (repeat ((first | refine BoxN.own ?_ | refine RwN.own ?_ | refine VrN.norm (wrap_i64 (by omega)) ?_ | refine VrN.keep ?_ | refine DrawN.calm (by decide +kernel) ?_ | refine Nd.mk (by decide +kernel) ?_ | refine Nd.mk (by omega) ?_ | (refine Nd.mk ?_ ?_; focus ((repeat' (first | exact trivial | exact wkE_refl _ | refine And.intro ?_ ?_)); done)) | refine RdN.intro _ rfl (by rfl) ?_); (conv => whnf))))
    exact fin_v rfl
  · rw [hN, if_neg h1]
    have hs := sevens_c n.toNat (by omega)
    rw [show ((n.toNat : Nat) : Int) = n by omega] at hs
    ((conv => whnf); (repeat ((first | refine BoxN.own ?_ | refine RwN.own ?_ | refine VrN.norm (wrap_i64 (by omega)) ?_ | refine VrN.keep ?_ | refine DrawN.calm (by decide +kernel) ?_ | refine Nd.mk (by decide +kernel) ?_ | refine Nd.mk (by omega) ?_ | (refine Nd.mk ?_ ?_; focus ((repeat' (first | exact trivial | exact wkE_refl _ | refine And.intro ?_ ?_)); done)) | refine RdN.intro _ rfl (by rfl) ?_); (conv => whnf))))
    refine SpecF.call hs (fun w _ => trivial) fun v G hR => ?_
    obtain ⟨ob, cap, rfl, h5, h6⟩ := hR
    ((conv => whnf); (repeat ((first | refine BoxN.own ?_ | refine RwN.own ?_ | refine VrN.norm (wrap_i64 (by omega)) ?_ | refine VrN.keep ?_ | refine DrawN.calm (by decide +kernel) ?_ | refine Nd.mk (by decide +kernel) ?_ | refine Nd.mk (by omega) ?_ | (refine Nd.mk ?_ ?_; focus ((repeat' (first | exact trivial | exact wkE_refl _ | refine And.intro ?_ ?_)); done)) | refine RdN.intro _ rfl (by rfl) ?_); (conv => whnf))))
    exact fin_p G ⟨_, rfl, ob, cap, rfl, h5, h6⟩ (fun w hw => hw.2.1)
theorem number_U (b : Bool) (k n : Int) (hn : -9223372036854775808 ≤ n ∧ n < 9223372036854775808) : SpecF Tryd.prog 91 [dirV ⟨85, b, k⟩, .int .i64 n] (fun _ => True) (WrR (numS ⟨85, b, k⟩ n)) := by
  have hN : numS ⟨85, b, k⟩ n = if rune n then .ok (utf n.toNat) else .error 5 := rfl
  have hw : 0 ≤ n → n ≤ 1114111 → IntKind.i32.wrap n = n := fun h1 h2 => by
    have e : IntKind.i32.wrap n = if n % 4294967296 ≥ 2147483648 then n % 4294967296 - 4294967296 else n % 4294967296 := by
      simp [IntKind.wrap, IntKind.bits, IntKind.signed]
    rw [e, if_neg (by omega)]
    omega
  refine specF hm Tryd.func91 (by kernel_rfl) rfl rfl ?_
  ((conv => whnf); (repeat ((first | refine BoxN.own ?_ | refine RwN.own ?_ | refine VrN.norm (wrap_i64 (by omega)) ?_ | refine VrN.keep ?_ | refine DrawN.calm (by decide +kernel) ?_ | refine Nd.mk (by decide +kernel) ?_ | refine Nd.mk (by omega) ?_ | (refine Nd.mk ?_ ?_; focus ((repeat' (first | exact trivial | exact wkE_refl _ | refine And.intro ?_ ?_)); done)) | refine RdN.intro _ rfl (by rfl) ?_); (conv => whnf))))
  refine brd_dec (fun h1 => ?_) (fun h1 => ?_)
  · rw [hN, if_neg (by unfold rune; rw [decide_eq_false (by omega)]; simp)]
    ((conv => whnf); (repeat ((first | refine BoxN.own ?_ | refine RwN.own ?_ | refine VrN.norm (wrap_i64 (by omega)) ?_ | refine VrN.keep ?_ | refine DrawN.calm (by decide +kernel) ?_ | refine Nd.mk (by decide +kernel) ?_ | refine Nd.mk (by omega) ?_ | (refine Nd.mk ?_ ?_; focus ((repeat' (first | exact trivial | exact wkE_refl _ | refine And.intro ?_ ?_)); done)) | refine RdN.intro _ rfl (by rfl) ?_); (conv => whnf))))
    exact fin_v rfl
  · ((conv => whnf); (repeat ((first | refine BoxN.own ?_ | refine RwN.own ?_ | refine VrN.norm (wrap_i64 (by omega)) ?_ | refine VrN.keep ?_ | refine DrawN.calm (by decide +kernel) ?_ | refine Nd.mk (by decide +kernel) ?_ | refine Nd.mk (by omega) ?_ | (refine Nd.mk ?_ ?_; focus ((repeat' (first | exact trivial | exact wkE_refl _ | refine And.intro ?_ ?_)); done)) | refine RdN.intro _ rfl (by rfl) ?_); (conv => whnf))))
    refine brd_dec (fun h2 => ?_) (fun h2 => ?_)
    · rw [hN, if_neg (by unfold rune; rw [decide_eq_false (show ¬ n ≤ 1114111 by omega)]; simp)]
      ((conv => whnf); (repeat ((first | refine BoxN.own ?_ | refine RwN.own ?_ | refine VrN.norm (wrap_i64 (by omega)) ?_ | refine VrN.keep ?_ | refine DrawN.calm (by decide +kernel) ?_ | refine Nd.mk (by decide +kernel) ?_ | refine Nd.mk (by omega) ?_ | (refine Nd.mk ?_ ?_; focus ((repeat' (first | exact trivial | exact wkE_refl _ | refine And.intro ?_ ?_)); done)) | refine RdN.intro _ rfl (by rfl) ?_); (conv => whnf))))
      exact fin_v rfl
    · have hw := hw (by omega) (by omega)
      ((conv => whnf); (repeat ((first | refine BoxN.own ?_ | refine RwN.own ?_ | refine VrN.norm (wrap_i64 (by omega)) ?_ | refine VrN.keep ?_ | refine DrawN.calm (by decide +kernel) ?_ | refine Nd.mk (by decide +kernel) ?_ | refine Nd.mk (by omega) ?_ | (refine Nd.mk ?_ ?_; focus ((repeat' (first | exact trivial | exact wkE_refl _ | refine And.intro ?_ ?_)); done)) | refine RdN.intro _ rfl (by rfl) ?_); (conv => whnf))))
      rw [hw]
      refine call1 (ValidRune_c n _) ?_
      have hv : Lib.validRune n = rune n := by
        unfold Lib.validRune rune
        rw [Bool.eq_iff_iff]
        simp only [decide_eq_true_eq, Bool.and_eq_true, Bool.or_eq_true]
        omega
      ((conv => whnf); (repeat ((first | refine BoxN.own ?_ | refine RwN.own ?_ | refine VrN.norm (wrap_i64 (by omega)) ?_ | refine VrN.keep ?_ | refine DrawN.calm (by decide +kernel) ?_ | refine Nd.mk (by decide +kernel) ?_ | refine Nd.mk (by omega) ?_ | (refine Nd.mk ?_ ?_; focus ((repeat' (first | exact trivial | exact wkE_refl _ | refine And.intro ?_ ?_)); done)) | refine RdN.intro _ rfl (by rfl) ?_); (conv => whnf))))
      rw [hv]
      cases hr : rune n with
      | false =>
        rw [hN, hr]
        ((conv => whnf); (repeat ((first | refine BoxN.own ?_ | refine RwN.own ?_ | refine VrN.norm (wrap_i64 (by omega)) ?_ | refine VrN.keep ?_ | refine DrawN.calm (by decide +kernel) ?_ | refine Nd.mk (by decide +kernel) ?_ | refine Nd.mk (by omega) ?_ | (refine Nd.mk ?_ ?_; focus ((repeat' (first | exact trivial | exact wkE_refl _ | refine And.intro ?_ ?_)); done)) | refine RdN.intro _ rfl (by rfl) ?_); (conv => whnf))))
        exact fin_v rfl
      | true =>
        rw [hN, hr]
        ((conv => whnf); (repeat ((first | refine BoxN.own ?_ | refine RwN.own ?_ | refine VrN.norm (wrap_i64 (by omega)) ?_ | refine VrN.keep ?_ | refine DrawN.calm (by decide +kernel) ?_ | refine Nd.mk (by decide +kernel) ?_ | refine Nd.mk (by omega) ?_ | (refine Nd.mk ?_ ?_; focus ((repeat' (first | exact trivial | exact wkE_refl _ | refine And.intro ?_ ?_)); done)) | refine RdN.intro _ rfl (by rfl) ?_); (conv => whnf))))
        rw [hw]
        refine SpecF.call (AppendRune_c n n.toNat (by omega) (by rw [show ((n.toNat : Nat) : Int) = n by omega]; exact hr)) (fun w _ => trivial) fun v G hR => ?_
        obtain ⟨ob, cap, rfl, h5, h6⟩ := hR
        ((conv => whnf); (repeat ((first | refine BoxN.own ?_ | refine RwN.own ?_ | refine VrN.norm (wrap_i64 (by omega)) ?_ | refine VrN.keep ?_ | refine DrawN.calm (by decide +kernel) ?_ | refine Nd.mk (by decide +kernel) ?_ | refine Nd.mk (by omega) ?_ | (refine Nd.mk ?_ ?_; focus ((repeat' (first | exact trivial | exact wkE_refl _ | refine And.intro ?_ ?_)); done)) | refine RdN.intro _ rfl (by rfl) ?_); (conv => whnf))))
        exact fin_p G ⟨_, rfl, ob, cap, rfl, h5, h6⟩ (fun w hw => hw.2.1)
end Go.Proofs.YtjkchonpnocffaaDoor

/-
  Plain Lean: a number of a fixed size, byte by byte.
-/
namespace Go.Pack
theorem le_len : ∀ (k : Nat) (n : Int), (le k n).length = k
  | 0, _ => rfl
  | k + 1, n => by simp [le, le_len k]
theorem le_get : ∀ (k : Nat) (n : Int) (i : Nat), i < k → (le k n)[i]? = some (UInt8.ofNat (n / 256 ^ i % 256).toNat)
  | 0, _, _, h => absurd h (Nat.not_lt_zero _)
  | k + 1, n, 0, _ => by simp [le]
  | k + 1, n, i + 1, h => by
    have := le_get k (n / 256) i (by omega)
    unfold le
    rw [List.getElem?_cons_succ, this]
    congr 3
    rw [Int.pow_succ', Int.ediv_ediv_of_nonneg (by omega)]
/-- The first i bytes are written. -/
def fl (k : Nat) (n : Int) (i : Nat) : B := (le k n).take i ++ List.replicate (k - i) 0
theorem fl_len (k : Nat) (n : Int) (i : Nat) (h : i ≤ k) : (fl k n i).length = k := by simp [fl, le_len]; omega
theorem fl_end (k : Nat) (n : Int) : fl k n k = le k n := by
  unfold fl
  rw [List.take_of_length_le (by rw [le_len]; exact Nat.le_refl _), Nat.sub_self]
  simp
theorem fl_set (k : Nat) (n : Int) (i : Nat) (h : i < k) : (fl k n i).set i (UInt8.ofNat (n / 256 ^ i % 256).toNat) = fl k n (i + 1) := by
  have hg := le_get k n i h
  unfold fl
  have hl : ((le k n).take i).length = i := by simp [le_len]; omega
  rw [List.set_append_right _ _ (by omega), hl, Nat.sub_self, List.take_add_one, hg]
  obtain ⟨m, hm⟩ : ∃ m, k - i = m + 1 := ⟨k - i - 1, by omega⟩
  rw [hm, show k - (i + 1) = m by omega]
  simp [List.replicate_succ]
end Go.Pack

/-
  Contract: a number of a fixed size is written (program).
-/
namespace Go.Proofs.YtjkchonpnocffaaDoor
open Go.AX Go.RowKit Go.Pack
set_option maxRecDepth 20000

theorem sz_le (c : UInt8) : sz c ≤ 8 := by
  unfold sz
  split
  · omega
  split
  · omega
  split
  · omega
  split <;> omega
theorem byte_at (n : Int) (i : Nat) (hi : i < 8) : IntKind.u8.wrap (n.fdiv (2 ^ min (8 * (i : Int)).toNat IntKind.i64.bits)) = ((UInt8.ofNat (n / 256 ^ i % 256).toNat).toNat : Int) := by
  rw [show min (8 * (i : Int)).toNat IntKind.i64.bits = 8 * i by show min _ 64 = _; omega, Int.pow_mul, show (2 : Int) ^ 8 = 256 from rfl, Int.fdiv_eq_ediv_of_nonneg _ (Int.pow_nonneg (by omega)), wrap_u8_eq]
  have h1 := Int.emod_nonneg (n / 256 ^ i) (show (256 : Int) ≠ 0 by omega)
  have h2 := Int.emod_lt_of_pos (n / 256 ^ i) (show (0 : Int) < 256 by omega)
  rw [ofNat_int (by omega)]
  omega
theorem number_z (c : UInt8) (b : Bool) (k n : Int) (h : sz c ≠ 0) : SpecF Tryd.prog 91 [dirV ⟨c, b, k⟩, .int .i64 n] (fun _ => True) (WrR (numS ⟨c, b, k⟩ n)) := by
  have hc := sz_cases h
  have h119 : ((c.toNat : Int) == 119) = false := by rcases hc with rfl | rfl | rfl | rfl | rfl | rfl | rfl | rfl | rfl | rfl <;> rfl
  have h85 : ((c.toNat : Int) == 85) = false := by rcases hc with rfl | rfl | rfl | rfl | rfl | rfl | rfl | rfl | rfl | rfl <;> rfl
  have hN : numS ⟨c, b, k⟩ n = if fit c n then .ok (if hi ⟨c, b, k⟩ then (le (sz c) n).reverse else le (sz c) n) else .error 5 := by
    rcases hc with rfl | rfl | rfl | rfl | rfl | rfl | rfl | rfl | rfl | rfl <;> rfl
  have h8 := sz_le c
  refine specF hm Tryd.func91 (by kernel_rfl) rfl rfl ?_
  ((conv => whnf); (repeat ((first | refine BoxN.own ?_ | refine RwN.own ?_ | refine VrN.norm (wrap_i64 (by omega)) ?_ | refine VrN.keep ?_ | refine DrawN.calm (by decide +kernel) ?_ | refine Nd.mk (by decide +kernel) ?_ | refine Nd.mk (by omega) ?_ | (refine Nd.mk ?_ ?_; focus ((repeat' (first | exact trivial | exact wkE_refl _ | refine And.intro ?_ ?_)); done)) | refine RdN.intro _ rfl (by rfl) ?_); (conv => whnf))))
  rw [h119]
  ((conv => whnf); (repeat ((first | refine BoxN.own ?_ | refine RwN.own ?_ | refine VrN.norm (wrap_i64 (by omega)) ?_ | refine VrN.keep ?_ | refine DrawN.calm (by decide +kernel) ?_ | refine Nd.mk (by decide +kernel) ?_ | refine Nd.mk (by omega) ?_ | (refine Nd.mk ?_ ?_; focus ((repeat' (first | exact trivial | exact wkE_refl _ | refine And.intro ?_ ?_)); done)) | refine RdN.intro _ rfl (by rfl) ?_); (conv => whnf))))
  rw [h85]
  ((conv => whnf); (repeat ((first | refine BoxN.own ?_ | refine RwN.own ?_ | refine VrN.norm (wrap_i64 (by omega)) ?_ | refine VrN.keep ?_ | refine DrawN.calm (by decide +kernel) ?_ | refine Nd.mk (by decide +kernel) ?_ | refine Nd.mk (by omega) ?_ | (refine Nd.mk ?_ ?_; focus ((repeat' (first | exact trivial | exact wkE_refl _ | refine And.intro ?_ ?_)); done)) | refine RdN.intro _ rfl (by rfl) ?_); (conv => whnf))))
  refine call1 (fits_c c b k n h _) ?_
  ((conv => whnf); (repeat ((first | refine BoxN.own ?_ | refine RwN.own ?_ | refine VrN.norm (wrap_i64 (by omega)) ?_ | refine VrN.keep ?_ | refine DrawN.calm (by decide +kernel) ?_ | refine Nd.mk (by decide +kernel) ?_ | refine Nd.mk (by omega) ?_ | (refine Nd.mk ?_ ?_; focus ((repeat' (first | exact trivial | exact wkE_refl _ | refine And.intro ?_ ?_)); done)) | refine RdN.intro _ rfl (by rfl) ?_); (conv => whnf))))
  cases hf : fit c n with
  | false =>
    rw [hN, hf]
    ((conv => whnf); (repeat ((first | refine BoxN.own ?_ | refine RwN.own ?_ | refine VrN.norm (wrap_i64 (by omega)) ?_ | refine VrN.keep ?_ | refine DrawN.calm (by decide +kernel) ?_ | refine Nd.mk (by decide +kernel) ?_ | refine Nd.mk (by omega) ?_ | (refine Nd.mk ?_ ?_; focus ((repeat' (first | exact trivial | exact wkE_refl _ | refine And.intro ?_ ?_)); done)) | refine RdN.intro _ rfl (by rfl) ?_); (conv => whnf))))
    exact fin_v rfl
  | true =>
    rw [hN, hf]
    ((conv => whnf); (repeat ((first | refine BoxN.own ?_ | refine RwN.own ?_ | refine VrN.norm (wrap_i64 (by omega)) ?_ | refine VrN.keep ?_ | refine DrawN.calm (by decide +kernel) ?_ | refine Nd.mk (by decide +kernel) ?_ | refine Nd.mk (by omega) ?_ | (refine Nd.mk ?_ ?_; focus ((repeat' (first | exact trivial | exact wkE_refl _ | refine And.intro ?_ ?_)); done)) | refine RdN.intro _ rfl (by rfl) ?_); (conv => whnf))))
    refine call1 (bytes_c ⟨c, b, k⟩ _) ?_
    generalize hk : sz c = m at *
    ((conv => whnf); (repeat ((first | refine BoxN.own ?_ | refine RwN.own ?_ | refine VrN.norm (wrap_i64 (by omega)) ?_ | refine VrN.keep ?_ | refine DrawN.calm (by decide +kernel) ?_ | refine Nd.mk (by decide +kernel) ?_ | refine Nd.mk (by omega) ?_ | (refine Nd.mk ?_ ?_; focus ((repeat' (first | exact trivial | exact wkE_refl _ | refine And.intro ?_ ?_)); done)) | refine RdN.intro _ rfl (by rfl) ?_); (conv => whnf))))
    refine EffW.mkBytes (e := 5) m rfl (by kernel_rfl) (by kernel_rfl) rfl rfl (by omega) fun bb => ?_
    ((conv => whnf); (repeat ((first | refine BoxN.own ?_ | refine RwN.own ?_ | refine VrN.norm (wrap_i64 (by omega)) ?_ | refine VrN.keep ?_ | refine DrawN.calm (by decide +kernel) ?_ | refine Nd.mk (by decide +kernel) ?_ | refine Nd.mk (by omega) ?_ | (refine Nd.mk ?_ ?_; focus ((repeat' (first | exact trivial | exact wkE_refl _ | refine And.intro ?_ ?_)); done)) | refine RdN.intro _ rfl (by rfl) ?_); (conv => whnf))))
    refine LoopN.intro Nat (fun i => i ≤ m)
      (fun i => mkS Tryd.f91.ntmps 0 [(1, .c (.v (.int .i64 n))), (2, .c (.lp 1 0)), (6, .c (.v (.slice (some ⟨bb, 0, none⟩) m m))), (44, .c (.v (.int .i64 (m : Int)))), (45, .c (.v (.int .i64 (i : Int))))])
      (fun i => [.fact fun _ => True, .blk 57 [.v (.int .u8 (c.toNat : Int)), .v (.bool b), .v (.int .i64 k)], .app 5 1 (u8s (fl m n i)) (some ⟨bb, 0, none⟩) m m]) (fun i => m - i) [] rfl
      (fun _ => rfl) (fun _ => rfl) (fun _ _ => okHB_eq rfl) ⟨0, Nat.zero_le _, ?_, ?_⟩ ?_
    · (repeat' (first | exact trivial | refine And.intro (by with_reducible rfl) ?_ | (with_reducible exact wkC_refl _) | (with_reducible exact wkCs_refl _) | refine And.intro ?_ ?_))
      all_goals rfl
    · exact ⟨wkE_refl _, wkE_refl _, by rw [show u8s (fl m n 0) = List.replicate m (.int .u8 0) by simp [fl, u8s]]; exact wkE_refl _, wkH_nil _⟩
    intro i hi
    ((conv => whnf); (repeat ((first | refine BoxN.own ?_ | refine RwN.own ?_ | refine VrN.norm (wrap_i64 (by omega)) ?_ | refine VrN.keep ?_ | refine DrawN.calm (by decide +kernel) ?_ | refine Nd.mk (by decide +kernel) ?_ | refine Nd.mk (by omega) ?_ | (refine Nd.mk ?_ ?_; focus ((repeat' (first | exact trivial | exact wkE_refl _ | refine And.intro ?_ ?_)); done)) | refine RdN.intro _ rfl (by rfl) ?_); (conv => whnf))))
    refine brd_dec (fun h1 => ?_) (fun h1 => ?_)
    · have hi8 : i = 0 ∨ i = 1 ∨ i = 2 ∨ i = 3 ∨ i = 4 ∨ i = 5 ∨ i = 6 ∨ i = 7 := by omega
      rcases hi8 with rfl | rfl | rfl | rfl | rfl | rfl | rfl | rfl
      · ((conv => whnf); (repeat ((first | refine BoxN.own ?_ | refine RwN.own ?_ | refine VrN.norm (wrap_i64 (by omega)) ?_ | refine VrN.keep ?_ | refine DrawN.calm (by decide +kernel) ?_ | refine Nd.mk (by decide +kernel) ?_ | refine Nd.mk (by omega) ?_ | (refine Nd.mk ?_ ?_; focus ((repeat' (first | exact trivial | exact wkE_refl _ | refine And.intro ?_ ?_)); done)) | refine RdN.intro _ rfl (by rfl) ?_); (conv => whnf))))
        refine Nd.mk ⟨rfl, by omega, by omega⟩ ?_
        ((conv => whnf); (repeat ((first | refine BoxN.own ?_ | refine RwN.own ?_ | refine VrN.norm (wrap_i64 (by omega)) ?_ | refine VrN.keep ?_ | refine DrawN.calm (by decide +kernel) ?_ | refine Nd.mk (by decide +kernel) ?_ | refine Nd.mk (by omega) ?_ | (refine Nd.mk ?_ ?_; focus ((repeat' (first | exact trivial | exact wkE_refl _ | refine And.intro ?_ ?_)); done)) | refine RdN.intro _ rfl (by rfl) ?_); (conv => whnf))))
        refine EffW.appTo (i := 2) (q := 0) (ys := [_]) (u8s (fl m n (0 + 1))) 1 rfl (ptr_lit rfl rfl) rfl rfl rfl rfl rfl (by show 0 + 1 ≤ m * 1; omega) (by
          show (u8s (fl m n 0)).take 0 ++ [Value.int .u8 (IntKind.u8.wrap (n.fdiv (2 ^ min (8 * ((0 : Nat) : Int)).toNat IntKind.i64.bits)))] ++ (u8s (fl m n 0)).drop (0 + 1) = _
          rw [byte_at n 0 (by omega), u8s_put _ (by rw [fl_len m n 0 hi]; omega), fl_set m n 0 (by omega)]) rfl ?_
        ((conv => whnf); (repeat ((first | refine BoxN.own ?_ | refine RwN.own ?_ | refine VrN.norm (wrap_i64 (by omega)) ?_ | refine VrN.keep ?_ | refine DrawN.calm (by decide +kernel) ?_ | refine Nd.mk (by decide +kernel) ?_ | refine Nd.mk (by omega) ?_ | (refine Nd.mk ?_ ?_; focus ((repeat' (first | exact trivial | exact wkE_refl _ | refine And.intro ?_ ?_)); done)) | refine RdN.intro _ rfl (by rfl) ?_); (conv => whnf))))
        refine ⟨0 + 1, by omega, by omega, ?_, by (repeat' (first | exact trivial | exact wkE_refl _ | refine And.intro ?_ ?_))⟩
        (repeat' (first | exact trivial | refine And.intro (by with_reducible rfl) ?_ | (with_reducible exact wkC_refl _) | (with_reducible exact wkCs_refl _) | refine And.intro ?_ ?_))
        all_goals rfl
      · ((conv => whnf); (repeat ((first | refine BoxN.own ?_ | refine RwN.own ?_ | refine VrN.norm (wrap_i64 (by omega)) ?_ | refine VrN.keep ?_ | refine DrawN.calm (by decide +kernel) ?_ | refine Nd.mk (by decide +kernel) ?_ | refine Nd.mk (by omega) ?_ | (refine Nd.mk ?_ ?_; focus ((repeat' (first | exact trivial | exact wkE_refl _ | refine And.intro ?_ ?_)); done)) | refine RdN.intro _ rfl (by rfl) ?_); (conv => whnf))))
        refine Nd.mk ⟨rfl, by omega, by omega⟩ ?_
        ((conv => whnf); (repeat ((first | refine BoxN.own ?_ | refine RwN.own ?_ | refine VrN.norm (wrap_i64 (by omega)) ?_ | refine VrN.keep ?_ | refine DrawN.calm (by decide +kernel) ?_ | refine Nd.mk (by decide +kernel) ?_ | refine Nd.mk (by omega) ?_ | (refine Nd.mk ?_ ?_; focus ((repeat' (first | exact trivial | exact wkE_refl _ | refine And.intro ?_ ?_)); done)) | refine RdN.intro _ rfl (by rfl) ?_); (conv => whnf))))
        refine EffW.appTo (i := 2) (q := 1) (ys := [_]) (u8s (fl m n (1 + 1))) 1 rfl (ptr_lit rfl rfl) rfl rfl rfl rfl rfl (by show 1 + 1 ≤ m * 1; omega) (by
          show (u8s (fl m n 1)).take 1 ++ [Value.int .u8 (IntKind.u8.wrap (n.fdiv (2 ^ min (8 * ((1 : Nat) : Int)).toNat IntKind.i64.bits)))] ++ (u8s (fl m n 1)).drop (1 + 1) = _
          rw [byte_at n 1 (by omega), u8s_put _ (by rw [fl_len m n 1 hi]; omega), fl_set m n 1 (by omega)]) rfl ?_
        ((conv => whnf); (repeat ((first | refine BoxN.own ?_ | refine RwN.own ?_ | refine VrN.norm (wrap_i64 (by omega)) ?_ | refine VrN.keep ?_ | refine DrawN.calm (by decide +kernel) ?_ | refine Nd.mk (by decide +kernel) ?_ | refine Nd.mk (by omega) ?_ | (refine Nd.mk ?_ ?_; focus ((repeat' (first | exact trivial | exact wkE_refl _ | refine And.intro ?_ ?_)); done)) | refine RdN.intro _ rfl (by rfl) ?_); (conv => whnf))))
        refine ⟨1 + 1, by omega, by omega, ?_, by (repeat' (first | exact trivial | exact wkE_refl _ | refine And.intro ?_ ?_))⟩
        (repeat' (first | exact trivial | refine And.intro (by with_reducible rfl) ?_ | (with_reducible exact wkC_refl _) | (with_reducible exact wkCs_refl _) | refine And.intro ?_ ?_))
        all_goals rfl
      · ((conv => whnf); (repeat ((first | refine BoxN.own ?_ | refine RwN.own ?_ | refine VrN.norm (wrap_i64 (by omega)) ?_ | refine VrN.keep ?_ | refine DrawN.calm (by decide +kernel) ?_ | refine Nd.mk (by decide +kernel) ?_ | refine Nd.mk (by omega) ?_ | (refine Nd.mk ?_ ?_; focus ((repeat' (first | exact trivial | exact wkE_refl _ | refine And.intro ?_ ?_)); done)) | refine RdN.intro _ rfl (by rfl) ?_); (conv => whnf))))
        refine Nd.mk ⟨rfl, by omega, by omega⟩ ?_
        ((conv => whnf); (repeat ((first | refine BoxN.own ?_ | refine RwN.own ?_ | refine VrN.norm (wrap_i64 (by omega)) ?_ | refine VrN.keep ?_ | refine DrawN.calm (by decide +kernel) ?_ | refine Nd.mk (by decide +kernel) ?_ | refine Nd.mk (by omega) ?_ | (refine Nd.mk ?_ ?_; focus ((repeat' (first | exact trivial | exact wkE_refl _ | refine And.intro ?_ ?_)); done)) | refine RdN.intro _ rfl (by rfl) ?_); (conv => whnf))))
        refine EffW.appTo (i := 2) (q := 2) (ys := [_]) (u8s (fl m n (2 + 1))) 1 rfl (ptr_lit rfl rfl) rfl rfl rfl rfl rfl (by show 2 + 1 ≤ m * 1; omega) (by
          show (u8s (fl m n 2)).take 2 ++ [Value.int .u8 (IntKind.u8.wrap (n.fdiv (2 ^ min (8 * ((2 : Nat) : Int)).toNat IntKind.i64.bits)))] ++ (u8s (fl m n 2)).drop (2 + 1) = _
          rw [byte_at n 2 (by omega), u8s_put _ (by rw [fl_len m n 2 hi]; omega), fl_set m n 2 (by omega)]) rfl ?_
        ((conv => whnf); (repeat ((first | refine BoxN.own ?_ | refine RwN.own ?_ | refine VrN.norm (wrap_i64 (by omega)) ?_ | refine VrN.keep ?_ | refine DrawN.calm (by decide +kernel) ?_ | refine Nd.mk (by decide +kernel) ?_ | refine Nd.mk (by omega) ?_ | (refine Nd.mk ?_ ?_; focus ((repeat' (first | exact trivial | exact wkE_refl _ | refine And.intro ?_ ?_)); done)) | refine RdN.intro _ rfl (by rfl) ?_); (conv => whnf))))
        refine ⟨2 + 1, by omega, by omega, ?_, by (repeat' (first | exact trivial | exact wkE_refl _ | refine And.intro ?_ ?_))⟩
        (repeat' (first | exact trivial | refine And.intro (by with_reducible rfl) ?_ | (with_reducible exact wkC_refl _) | (with_reducible exact wkCs_refl _) | refine And.intro ?_ ?_))
        all_goals rfl
      · ((conv => whnf); (repeat ((first | refine BoxN.own ?_ | refine RwN.own ?_ | refine VrN.norm (wrap_i64 (by omega)) ?_ | refine VrN.keep ?_ | refine DrawN.calm (by decide +kernel) ?_ | refine Nd.mk (by decide +kernel) ?_ | refine Nd.mk (by omega) ?_ | (refine Nd.mk ?_ ?_; focus ((repeat' (first | exact trivial | exact wkE_refl _ | refine And.intro ?_ ?_)); done)) | refine RdN.intro _ rfl (by rfl) ?_); (conv => whnf))))
        refine Nd.mk ⟨rfl, by omega, by omega⟩ ?_
        ((conv => whnf); (repeat ((first | refine BoxN.own ?_ | refine RwN.own ?_ | refine VrN.norm (wrap_i64 (by omega)) ?_ | refine VrN.keep ?_ | refine DrawN.calm (by decide +kernel) ?_ | refine Nd.mk (by decide +kernel) ?_ | refine Nd.mk (by omega) ?_ | (refine Nd.mk ?_ ?_; focus ((repeat' (first | exact trivial | exact wkE_refl _ | refine And.intro ?_ ?_)); done)) | refine RdN.intro _ rfl (by rfl) ?_); (conv => whnf))))
        refine EffW.appTo (i := 2) (q := 3) (ys := [_]) (u8s (fl m n (3 + 1))) 1 rfl (ptr_lit rfl rfl) rfl rfl rfl rfl rfl (by show 3 + 1 ≤ m * 1; omega) (by
          show (u8s (fl m n 3)).take 3 ++ [Value.int .u8 (IntKind.u8.wrap (n.fdiv (2 ^ min (8 * ((3 : Nat) : Int)).toNat IntKind.i64.bits)))] ++ (u8s (fl m n 3)).drop (3 + 1) = _
          rw [byte_at n 3 (by omega), u8s_put _ (by rw [fl_len m n 3 hi]; omega), fl_set m n 3 (by omega)]) rfl ?_
        ((conv => whnf); (repeat ((first | refine BoxN.own ?_ | refine RwN.own ?_ | refine VrN.norm (wrap_i64 (by omega)) ?_ | refine VrN.keep ?_ | refine DrawN.calm (by decide +kernel) ?_ | refine Nd.mk (by decide +kernel) ?_ | refine Nd.mk (by omega) ?_ | (refine Nd.mk ?_ ?_; focus ((repeat' (first | exact trivial | exact wkE_refl _ | refine And.intro ?_ ?_)); done)) | refine RdN.intro _ rfl (by rfl) ?_); (conv => whnf))))
        refine ⟨3 + 1, by omega, by omega, ?_, by (repeat' (first | exact trivial | exact wkE_refl _ | refine And.intro ?_ ?_))⟩
        (repeat' (first | exact trivial | refine And.intro (by with_reducible rfl) ?_ | (with_reducible exact wkC_refl _) | (with_reducible exact wkCs_refl _) | refine And.intro ?_ ?_))
        all_goals rfl
      · ((conv => whnf); (repeat ((first | refine BoxN.own ?_ | refine RwN.own ?_ | refine VrN.norm (wrap_i64 (by omega)) ?_ | refine VrN.keep ?_ | refine DrawN.calm (by decide +kernel) ?_ | refine Nd.mk (by decide +kernel) ?_ | refine Nd.mk (by omega) ?_ | (refine Nd.mk ?_ ?_; focus ((repeat' (first | exact trivial | exact wkE_refl _ | refine And.intro ?_ ?_)); done)) | refine RdN.intro _ rfl (by rfl) ?_); (conv => whnf))))
        refine Nd.mk ⟨rfl, by omega, by omega⟩ ?_
        ((conv => whnf); (repeat ((first | refine BoxN.own ?_ | refine RwN.own ?_ | refine VrN.norm (wrap_i64 (by omega)) ?_ | refine VrN.keep ?_ | refine DrawN.calm (by decide +kernel) ?_ | refine Nd.mk (by decide +kernel) ?_ | refine Nd.mk (by omega) ?_ | (refine Nd.mk ?_ ?_; focus ((repeat' (first | exact trivial | exact wkE_refl _ | refine And.intro ?_ ?_)); done)) | refine RdN.intro _ rfl (by rfl) ?_); (conv => whnf))))
        refine EffW.appTo (i := 2) (q := 4) (ys := [_]) (u8s (fl m n (4 + 1))) 1 rfl (ptr_lit rfl rfl) rfl rfl rfl rfl rfl (by show 4 + 1 ≤ m * 1; omega) (by
          show (u8s (fl m n 4)).take 4 ++ [Value.int .u8 (IntKind.u8.wrap (n.fdiv (2 ^ min (8 * ((4 : Nat) : Int)).toNat IntKind.i64.bits)))] ++ (u8s (fl m n 4)).drop (4 + 1) = _
          rw [byte_at n 4 (by omega), u8s_put _ (by rw [fl_len m n 4 hi]; omega), fl_set m n 4 (by omega)]) rfl ?_
        ((conv => whnf); (repeat ((first | refine BoxN.own ?_ | refine RwN.own ?_ | refine VrN.norm (wrap_i64 (by omega)) ?_ | refine VrN.keep ?_ | refine DrawN.calm (by decide +kernel) ?_ | refine Nd.mk (by decide +kernel) ?_ | refine Nd.mk (by omega) ?_ | (refine Nd.mk ?_ ?_; focus ((repeat' (first | exact trivial | exact wkE_refl _ | refine And.intro ?_ ?_)); done)) | refine RdN.intro _ rfl (by rfl) ?_); (conv => whnf))))
        refine ⟨4 + 1, by omega, by omega, ?_, by (repeat' (first | exact trivial | exact wkE_refl _ | refine And.intro ?_ ?_))⟩
        (repeat' (first | exact trivial | refine And.intro (by with_reducible rfl) ?_ | (with_reducible exact wkC_refl _) | (with_reducible exact wkCs_refl _) | refine And.intro ?_ ?_))
        all_goals rfl
      · ((conv => whnf); (repeat ((first | refine BoxN.own ?_ | refine RwN.own ?_ | refine VrN.norm (wrap_i64 (by omega)) ?_ | refine VrN.keep ?_ | refine DrawN.calm (by decide +kernel) ?_ | refine Nd.mk (by decide +kernel) ?_ | refine Nd.mk (by omega) ?_ | (refine Nd.mk ?_ ?_; focus ((repeat' (first | exact trivial | exact wkE_refl _ | refine And.intro ?_ ?_)); done)) | refine RdN.intro _ rfl (by rfl) ?_); (conv => whnf))))
        refine Nd.mk ⟨rfl, by omega, by omega⟩ ?_
        ((conv => whnf); (repeat ((first | refine BoxN.own ?_ | refine RwN.own ?_ | refine VrN.norm (wrap_i64 (by omega)) ?_ | refine VrN.keep ?_ | refine DrawN.calm (by decide +kernel) ?_ | refine Nd.mk (by decide +kernel) ?_ | refine Nd.mk (by omega) ?_ | (refine Nd.mk ?_ ?_; focus ((repeat' (first | exact trivial | exact wkE_refl _ | refine And.intro ?_ ?_)); done)) | refine RdN.intro _ rfl (by rfl) ?_); (conv => whnf))))
        refine EffW.appTo (i := 2) (q := 5) (ys := [_]) (u8s (fl m n (5 + 1))) 1 rfl (ptr_lit rfl rfl) rfl rfl rfl rfl rfl (by show 5 + 1 ≤ m * 1; omega) (by
          show (u8s (fl m n 5)).take 5 ++ [Value.int .u8 (IntKind.u8.wrap (n.fdiv (2 ^ min (8 * ((5 : Nat) : Int)).toNat IntKind.i64.bits)))] ++ (u8s (fl m n 5)).drop (5 + 1) = _
          rw [byte_at n 5 (by omega), u8s_put _ (by rw [fl_len m n 5 hi]; omega), fl_set m n 5 (by omega)]) rfl ?_
        ((conv => whnf); (repeat ((first | refine BoxN.own ?_ | refine RwN.own ?_ | refine VrN.norm (wrap_i64 (by omega)) ?_ | refine VrN.keep ?_ | refine DrawN.calm (by decide +kernel) ?_ | refine Nd.mk (by decide +kernel) ?_ | refine Nd.mk (by omega) ?_ | (refine Nd.mk ?_ ?_; focus ((repeat' (first | exact trivial | exact wkE_refl _ | refine And.intro ?_ ?_)); done)) | refine RdN.intro _ rfl (by rfl) ?_); (conv => whnf))))
        refine ⟨5 + 1, by omega, by omega, ?_, by (repeat' (first | exact trivial | exact wkE_refl _ | refine And.intro ?_ ?_))⟩
        (repeat' (first | exact trivial | refine And.intro (by with_reducible rfl) ?_ | (with_reducible exact wkC_refl _) | (with_reducible exact wkCs_refl _) | refine And.intro ?_ ?_))
        all_goals rfl
      · ((conv => whnf); (repeat ((first | refine BoxN.own ?_ | refine RwN.own ?_ | refine VrN.norm (wrap_i64 (by omega)) ?_ | refine VrN.keep ?_ | refine DrawN.calm (by decide +kernel) ?_ | refine Nd.mk (by decide +kernel) ?_ | refine Nd.mk (by omega) ?_ | (refine Nd.mk ?_ ?_; focus ((repeat' (first | exact trivial | exact wkE_refl _ | refine And.intro ?_ ?_)); done)) | refine RdN.intro _ rfl (by rfl) ?_); (conv => whnf))))
        refine Nd.mk ⟨rfl, by omega, by omega⟩ ?_
        ((conv => whnf); (repeat ((first | refine BoxN.own ?_ | refine RwN.own ?_ | refine VrN.norm (wrap_i64 (by omega)) ?_ | refine VrN.keep ?_ | refine DrawN.calm (by decide +kernel) ?_ | refine Nd.mk (by decide +kernel) ?_ | refine Nd.mk (by omega) ?_ | (refine Nd.mk ?_ ?_; focus ((repeat' (first | exact trivial | exact wkE_refl _ | refine And.intro ?_ ?_)); done)) | refine RdN.intro _ rfl (by rfl) ?_); (conv => whnf))))
        refine EffW.appTo (i := 2) (q := 6) (ys := [_]) (u8s (fl m n (6 + 1))) 1 rfl (ptr_lit rfl rfl) rfl rfl rfl rfl rfl (by show 6 + 1 ≤ m * 1; omega) (by
          show (u8s (fl m n 6)).take 6 ++ [Value.int .u8 (IntKind.u8.wrap (n.fdiv (2 ^ min (8 * ((6 : Nat) : Int)).toNat IntKind.i64.bits)))] ++ (u8s (fl m n 6)).drop (6 + 1) = _
          rw [byte_at n 6 (by omega), u8s_put _ (by rw [fl_len m n 6 hi]; omega), fl_set m n 6 (by omega)]) rfl ?_
        ((conv => whnf); (repeat ((first | refine BoxN.own ?_ | refine RwN.own ?_ | refine VrN.norm (wrap_i64 (by omega)) ?_ | refine VrN.keep ?_ | refine DrawN.calm (by decide +kernel) ?_ | refine Nd.mk (by decide +kernel) ?_ | refine Nd.mk (by omega) ?_ | (refine Nd.mk ?_ ?_; focus ((repeat' (first | exact trivial | exact wkE_refl _ | refine And.intro ?_ ?_)); done)) | refine RdN.intro _ rfl (by rfl) ?_); (conv => whnf))))
        refine ⟨6 + 1, by omega, by omega, ?_, by (repeat' (first | exact trivial | exact wkE_refl _ | refine And.intro ?_ ?_))⟩
        (repeat' (first | exact trivial | refine And.intro (by with_reducible rfl) ?_ | (with_reducible exact wkC_refl _) | (with_reducible exact wkCs_refl _) | refine And.intro ?_ ?_))
        all_goals rfl
      · ((conv => whnf); (repeat ((first | refine BoxN.own ?_ | refine RwN.own ?_ | refine VrN.norm (wrap_i64 (by omega)) ?_ | refine VrN.keep ?_ | refine DrawN.calm (by decide +kernel) ?_ | refine Nd.mk (by decide +kernel) ?_ | refine Nd.mk (by omega) ?_ | (refine Nd.mk ?_ ?_; focus ((repeat' (first | exact trivial | exact wkE_refl _ | refine And.intro ?_ ?_)); done)) | refine RdN.intro _ rfl (by rfl) ?_); (conv => whnf))))
        refine Nd.mk ⟨rfl, by omega, by omega⟩ ?_
        ((conv => whnf); (repeat ((first | refine BoxN.own ?_ | refine RwN.own ?_ | refine VrN.norm (wrap_i64 (by omega)) ?_ | refine VrN.keep ?_ | refine DrawN.calm (by decide +kernel) ?_ | refine Nd.mk (by decide +kernel) ?_ | refine Nd.mk (by omega) ?_ | (refine Nd.mk ?_ ?_; focus ((repeat' (first | exact trivial | exact wkE_refl _ | refine And.intro ?_ ?_)); done)) | refine RdN.intro _ rfl (by rfl) ?_); (conv => whnf))))
        refine EffW.appTo (i := 2) (q := 7) (ys := [_]) (u8s (fl m n (7 + 1))) 1 rfl (ptr_lit rfl rfl) rfl rfl rfl rfl rfl (by show 7 + 1 ≤ m * 1; omega) (by
          show (u8s (fl m n 7)).take 7 ++ [Value.int .u8 (IntKind.u8.wrap (n.fdiv (2 ^ min (8 * ((7 : Nat) : Int)).toNat IntKind.i64.bits)))] ++ (u8s (fl m n 7)).drop (7 + 1) = _
          rw [byte_at n 7 (by omega), u8s_put _ (by rw [fl_len m n 7 hi]; omega), fl_set m n 7 (by omega)]) rfl ?_
        ((conv => whnf); (repeat ((first | refine BoxN.own ?_ | refine RwN.own ?_ | refine VrN.norm (wrap_i64 (by omega)) ?_ | refine VrN.keep ?_ | refine DrawN.calm (by decide +kernel) ?_ | refine Nd.mk (by decide +kernel) ?_ | refine Nd.mk (by omega) ?_ | (refine Nd.mk ?_ ?_; focus ((repeat' (first | exact trivial | exact wkE_refl _ | refine And.intro ?_ ?_)); done)) | refine RdN.intro _ rfl (by rfl) ?_); (conv => whnf))))
        refine ⟨7 + 1, by omega, by omega, ?_, by (repeat' (first | exact trivial | exact wkE_refl _ | refine And.intro ?_ ?_))⟩
        (repeat' (first | exact trivial | refine And.intro (by with_reducible rfl) ?_ | (with_reducible exact wkC_refl _) | (with_reducible exact wkCs_refl _) | refine And.intro ?_ ?_))
        all_goals rfl
    · have him : i = m := by omega
      subst him
      rw [fl_end]
      ((conv => whnf); (repeat ((first | refine BoxN.own ?_ | refine RwN.own ?_ | refine VrN.norm (wrap_i64 (by omega)) ?_ | refine VrN.keep ?_ | refine DrawN.calm (by decide +kernel) ?_ | refine Nd.mk (by decide +kernel) ?_ | refine Nd.mk (by omega) ?_ | (refine Nd.mk ?_ ?_; focus ((repeat' (first | exact trivial | exact wkE_refl _ | refine And.intro ?_ ?_)); done)) | refine RdN.intro _ rfl (by rfl) ?_); (conv => whnf))))
      refine call1 (high_c ⟨c, b, k⟩ _) ?_
      cases hh : Go.Pack.hi ⟨c, b, k⟩ with
      | true =>
        have hR := Reverse_c (le i n) bb i (by rw [le_len]; omega)
        have e1 : own (le i n) bb i = .app 5 1 (u8s (le i n)) (some ⟨bb, 0, none⟩) i i := by unfold own; rw [le_len]
        have e2 : own (le i n).reverse bb i = .app 5 1 (u8s (le i n).reverse) (some ⟨bb, 0, none⟩) i i := by unfold own; rw [List.length_reverse, le_len]
        rw [le_len, e1, e2] at hR
        ((conv => whnf); (repeat ((first | refine BoxN.own ?_ | refine RwN.own ?_ | refine VrN.norm (wrap_i64 (by omega)) ?_ | refine VrN.keep ?_ | refine DrawN.calm (by decide +kernel) ?_ | refine Nd.mk (by decide +kernel) ?_ | refine Nd.mk (by omega) ?_ | (refine Nd.mk ?_ ?_; focus ((repeat' (first | exact trivial | exact wkE_refl _ | refine And.intro ?_ ?_)); done)) | refine RdN.intro _ rfl (by rfl) ?_); (conv => whnf))))
        refine callG hR [2] rfl ⟨rfl, trivial⟩ rfl fun _ _ => ?_
        ((conv => whnf); (repeat ((first | refine BoxN.own ?_ | refine RwN.own ?_ | refine VrN.norm (wrap_i64 (by omega)) ?_ | refine VrN.keep ?_ | refine DrawN.calm (by decide +kernel) ?_ | refine Nd.mk (by decide +kernel) ?_ | refine Nd.mk (by omega) ?_ | (refine Nd.mk ?_ ?_; focus ((repeat' (first | exact trivial | exact wkE_refl _ | refine And.intro ?_ ?_)); done)) | refine RdN.intro _ rfl (by rfl) ?_); (conv => whnf))))
        exact fin_p (SlAt (some ⟨bb, 0, none⟩) (i * 1) (u8s (le i n).reverse)) ⟨_, rfl, bytesR_cells (by rw [if_pos rfl, List.length_reverse, le_len]) rfl⟩ (fun w hw => hw.2.1)
      | false =>
        ((conv => whnf); (repeat ((first | refine BoxN.own ?_ | refine RwN.own ?_ | refine VrN.norm (wrap_i64 (by omega)) ?_ | refine VrN.keep ?_ | refine DrawN.calm (by decide +kernel) ?_ | refine Nd.mk (by decide +kernel) ?_ | refine Nd.mk (by omega) ?_ | (refine Nd.mk ?_ ?_; focus ((repeat' (first | exact trivial | exact wkE_refl _ | refine And.intro ?_ ?_)); done)) | refine RdN.intro _ rfl (by rfl) ?_); (conv => whnf))))
        exact fin_p (SlAt (some ⟨bb, 0, none⟩) (i * 1) (u8s (le i n))) ⟨_, rfl, bytesR_cells (by rw [if_neg (by simp), le_len]) rfl⟩ (fun w hw => hw.2.1)
end Go.Proofs.YtjkchonpnocffaaDoor

/-
  Contracts: a number is written; a hex digit (program).
-/
namespace Go.Proofs.YtjkchonpnocffaaDoor
open Go.AX Go.RowKit Go.Pack
set_option maxRecDepth 20000

theorem letter_num {c : UInt8} (hl : letters.contains c = true) (hs : isStr c = false) (hp : isPl c = false) : c = 119 ∨ c = 85 ∨ sz c ≠ 0 := by
  simp [letters] at hl
  rcases hl with rfl | rfl | rfl | rfl | rfl | rfl | rfl | rfl | rfl | rfl | rfl | rfl | rfl | rfl | rfl | rfl | rfl | rfl
  all_goals first | (exact .inl rfl) | (exact .inr (.inl rfl)) | (exact .inr (.inr (by decide))) | (cases hs; done) | (cases hp; done)
theorem number_c (d : Dir) (n : Int) (hn : -9223372036854775808 ≤ n ∧ n < 9223372036854775808) (hl : letters.contains d.letter = true) (hs : isStr d.letter = false) (hp : isPl d.letter = false) :
    SpecF Tryd.prog 91 [dirV d, .int .i64 n] (fun _ => True) (WrR (numS d n)) := by
  obtain ⟨c, b, k⟩ := d
  rcases letter_num hl hs hp with h | h | h
  · have h : c = 119 := h
    subst h
    exact number_w b k n hn
  · have h : c = 85 := h
    subst h
    exact number_U b k n hn
  · exact number_z c b k n h
/-- What digit gives. -/
theorem hex_idx : ∀ c : Fin 256, Lib.indexByte [48, 49, 50, 51, 52, 53, 54, 55, 56, 57, 97, 98, 99, 100, 101, 102] (UInt8.ofNat c.val) = match hexV (UInt8.ofNat c.val) with | some x => (x : Int) | none => -1 := by decide +kernel
theorem hex_index (c : UInt8) : Lib.indexByte [48, 49, 50, 51, 52, 53, 54, 55, 56, 57, 97, 98, 99, 100, 101, 102] c = match hexV c with | some x => (x : Int) | none => -1 := by
  have := hex_idx ⟨c.toNat, c.toNat_lt⟩
  simpa using this
theorem hexV_lt {c : UInt8} {x : Nat} (h : hexV c = some x) : x < 16 := by
  unfold hexV at h
  split at h
  · rename_i h1
    simp at h1
    have h2 : c.toNat ≤ 57 := by have := UInt8.le_iff_toNat_le.1 h1.2; simpa using this
    cases h
    omega
  · split at h
    · rename_i h1
      simp at h1
      have h2 : c.toNat ≤ 102 := by have := UInt8.le_iff_toNat_le.1 h1.2; simpa using this
      cases h
      omega
    · cases h
theorem digit_c (c : UInt8) : ∀ H, SpecH Tryd.prog 62 (pvs [.int .u8 (c.toNat : Int)]) H (Ret (match hexV c with | some x => .tuple #[.int .u8 (x : Int), .bool true] | none => .tuple #[.int .u8 0, .bool false]) H) := by
  refine pureC hm Tryd.func62 (by kernel_rfl) rfl rfl ?_
  ((conv => whnf); (repeat ((first | refine BoxN.own ?_ | refine RwN.own ?_ | refine VrN.norm (wrap_i64 (by omega)) ?_ | refine VrN.keep ?_ | refine DrawN.calm (by decide +kernel) ?_ | refine Nd.mk (by decide +kernel) ?_ | refine Nd.mk (by omega) ?_ | (refine Nd.mk ?_ ?_; focus ((repeat' (first | exact trivial | exact wkE_refl _ | refine And.intro ?_ ?_)); done)) | refine RdN.intro _ rfl (by rfl) ?_); (conv => whnf))))
  refine call1 (IndexByte_c [48, 49, 50, 51, 52, 53, 54, 55, 56, 57, 97, 98, 99, 100, 101, 102] c _) ?_
  rw [hex_index]
  cases hv : hexV c with
  | none =>
    ((conv => whnf); (repeat ((first | refine BoxN.own ?_ | refine RwN.own ?_ | refine VrN.norm (wrap_i64 (by omega)) ?_ | refine VrN.keep ?_ | refine DrawN.calm (by decide +kernel) ?_ | refine Nd.mk (by decide +kernel) ?_ | refine Nd.mk (by omega) ?_ | (refine Nd.mk ?_ ?_; focus ((repeat' (first | exact trivial | exact wkE_refl _ | refine And.intro ?_ ?_)); done)) | refine RdN.intro _ rfl (by rfl) ?_); (conv => whnf))))
    rfl
  | some x =>
    have hx := hexV_lt hv
    ((conv => whnf); (repeat ((first | refine BoxN.own ?_ | refine RwN.own ?_ | refine VrN.norm (wrap_i64 (by omega)) ?_ | refine VrN.keep ?_ | refine DrawN.calm (by decide +kernel) ?_ | refine Nd.mk (by decide +kernel) ?_ | refine Nd.mk (by omega) ?_ | (refine Nd.mk ?_ ?_; focus ((repeat' (first | exact trivial | exact wkE_refl _ | refine And.intro ?_ ?_)); done)) | refine RdN.intro _ rfl (by rfl) ?_); (conv => whnf))))
    show Out.val (.c (.v (.tuple #[.int .u8 (IntKind.u8.wrap (maxI (x : Int) 0)), .bool (decide ((x : Int) ≥ 0))]))) = _
    rw [show maxI (x : Int) 0 = x by unfold maxI; split <;> omega, wrap_u8 (by omega), decide_eq_true (by omega)]
end Go.Proofs.YtjkchonpnocffaaDoor

/-
  Contract: hex digits are written (program).
-/
namespace Go.Proofs.YtjkchonpnocffaaDoor
open Go.AX Go.RowKit Go.Pack
set_option maxRecDepth 20000

theorem repeatL_one (c : Nat) : Lib.repeatL [48] c = List.replicate c 48 := by
  induction c with
  | zero => rfl
  | succ c ih =>
    show [48] ++ Lib.repeatL [48] c = _
    rw [ih]
    rfl
theorem Repeat0_c (c : Nat) (hc : c ≤ 200001) : ∀ H, SpecH Tryd.prog 38 (pvs [.string ⟨#[48]⟩, .int .i64 c]) H (Ret (.string (bs (List.replicate c 48))) H) := fun H =>
  SpecH.rawP (R := fun r => r = .string (bs (List.replicate c 48))) (callOk Tryd.func38 (by kernel_rfl) rfl) (fun w hw => (Tryd.strings_Repeat ⟨#[48]⟩ c w (by omega) (by simp [ByteArray.size]; omega)).mono fun e w' ⟨he, bel⟩ => ⟨_, he, by rw [← repeatL_one]; rfl, bel⟩) fun r hr => by subst hr; exact ⟨rfl, rfl⟩
set_option maxHeartbeats 1000000 in
theorem hex_c (d : Dir) (s : List UInt8) (hs : s.length ≤ 200000) (hd : 0 ≤ d.count ∧ d.count ≤ 1000 ∨ d.count = -1 ∨ d.count = -2) : SpecF Tryd.prog 35 [dirV d, .string (bs s)] (fun _ => True) (WrR (hexS (cntS d s.length) s)) := by
  have hz := bs_size s
  refine specF hm Tryd.func35 (by kernel_rfl) rfl rfl ?_
  ((conv => whnf); (repeat ((first | refine BoxN.own ?_ | refine RwN.own ?_ | refine VrN.norm (wrap_i64 (by omega)) ?_ | refine VrN.keep ?_ | refine DrawN.calm (by decide +kernel) ?_ | refine Nd.mk (by decide +kernel) ?_ | refine Nd.mk (by omega) ?_ | (refine Nd.mk ?_ ?_; focus ((repeat' (first | exact trivial | exact wkE_refl _ | refine And.intro ?_ ?_)); done)) | refine RdN.intro _ rfl (by rfl) ?_); (conv => whnf))))
  refine brd_eq (fun h1 => ?_) (fun h1 => ?_)
  · have hk : d.count = -2 := by simpa using h1
    have hn : cntS d s.length = 1 := by unfold cntS; rw [if_pos hk]
    rw [hn]
    -- 1: how many digits
    ((conv => whnf); (repeat ((first | refine BoxN.own ?_ | refine RwN.own ?_ | refine VrN.norm (wrap_i64 (by omega)) ?_ | refine VrN.keep ?_ | refine DrawN.calm (by decide +kernel) ?_ | refine Nd.mk (by decide +kernel) ?_ | refine Nd.mk (by omega) ?_ | (refine Nd.mk ?_ ?_; focus ((repeat' (first | exact trivial | exact wkE_refl _ | refine And.intro ?_ ?_)); done)) | refine RdN.intro _ rfl (by rfl) ?_); (conv => whnf))))
    refine ReadW.sl_h (min 1 s.length) rfl Tryd.underlying9 rfl rfl ⟨by (show minI 1 _ = _); (first | rw [hz] | skip); (unfold minI); (split <;> omega), Nat.min_le_right _ _⟩ ?_
    rw [← List.take_eq_take_min]
    have hlt : (s.take 1).length = min 1 s.length := List.length_take
    have ht : Int.tmod 1 2 = ((1 % 2 : Nat) : Int) := (Int.ofNat_tmod 1 2).symm
    have harg : IntKind.i64.wrap (IntKind.i64.wrap (1 - ((bs (s.take 1)).size : Int)) + Int.tmod 1 2) = ((1 - s.length + 1 % 2 : Nat) : Int) := by
      rw [bs_size, hlt, ht, wrap_i64 (x := 1 - ((min 1 s.length : Nat) : Int)) (by omega), wrap_i64 (by omega)]
      try omega
    ((conv => whnf); (repeat ((first | refine BoxN.own ?_ | refine RwN.own ?_ | refine VrN.norm (wrap_i64 (by omega)) ?_ | refine VrN.keep ?_ | refine DrawN.calm (by decide +kernel) ?_ | refine Nd.mk (by decide +kernel) ?_ | refine Nd.mk (by omega) ?_ | (refine Nd.mk ?_ ?_; focus ((repeat' (first | exact trivial | exact wkE_refl _ | refine And.intro ?_ ?_)); done)) | refine RdN.intro _ rfl (by rfl) ?_); (conv => whnf))))
    rw [harg]
    refine call1 (Repeat0_c (1 - s.length + 1 % 2) (by omega) _) ?_
    ((conv => whnf); (repeat ((first | refine BoxN.own ?_ | refine RwN.own ?_ | refine VrN.norm (wrap_i64 (by omega)) ?_ | refine VrN.keep ?_ | refine DrawN.calm (by decide +kernel) ?_ | refine Nd.mk (by decide +kernel) ?_ | refine Nd.mk (by omega) ?_ | (refine Nd.mk ?_ ?_; focus ((repeat' (first | exact trivial | exact wkE_refl _ | refine And.intro ?_ ?_)); done)) | refine RdN.intro _ rfl (by rfl) ?_); (conv => whnf))))
    refine Nd.mk (by rw [bs_size, bs_size, hlt, List.length_replicate]; omega) ?_
    rw [bs_app]
    have hT : s.take 1 ++ List.replicate (1 - s.length + 1 % 2) 48 = hexT 1 s := rfl
    have hTl : (hexT 1 s).length = 1 + 1 % 2 := by rw [← hT]; simp; try omega
    unfold hexS
    rw [hT]
    generalize hexT 1 s = T at *
    have hzT := bs_size T
    ((conv => whnf); (repeat ((first | refine BoxN.own ?_ | refine RwN.own ?_ | refine VrN.norm (wrap_i64 (by omega)) ?_ | refine VrN.keep ?_ | refine DrawN.calm (by decide +kernel) ?_ | refine Nd.mk (by decide +kernel) ?_ | refine Nd.mk (by omega) ?_ | (refine Nd.mk ?_ ?_; focus ((repeat' (first | exact trivial | exact wkE_refl _ | refine And.intro ?_ ?_)); done)) | refine RdN.intro _ rfl (by rfl) ?_); (conv => whnf))))
    refine LoopN.intro (List UInt8 × Nat × Option Nat × Nat) (fun ⟨l, j, ob, cap⟩ => 2 * j ≤ T.length ∧ (hexP (T.drop (2 * j))).map (l ++ ·) = hexP T ∧ (ob = none → l = [] ∧ cap = 0) ∧ l.length = j)
      (fun ⟨l, j, ob, cap⟩ => mkS Tryd.f35.ntmps 0 [(1, .c (.v (.string (bs T)))), (7, .c (.v (.slice (at0 ob) l.length cap))), (8, .c (.v (.int .i64 ((2 * j : Nat) : Int))))])
      (fun ⟨l, _, ob, cap⟩ => [.fact fun _ => True, .blk 57 [.v (.int .u8 (d.letter.toNat : Int)), .v (.bool d.big), .v (.int .i64 d.count)], .app 5 1 (u8s l) (at0 ob) l.length cap]) (fun ⟨_, j, _, _⟩ => T.length - 2 * j) [.app 0 0 [] none 0 0] rfl
      (fun _ => rfl) (fun _ => rfl) (fun _ _ => okHB_eq rfl) ⟨([], 0, none, 0), ⟨Nat.zero_le _, by rw [Nat.mul_zero, List.drop_zero]; cases hexP T <;> rfl, fun _ => ⟨rfl, rfl⟩, rfl⟩, ?_, ?_⟩ ?_
    · (repeat' (first | exact trivial | refine And.intro (by with_reducible rfl) ?_ | (with_reducible exact wkC_refl _) | (with_reducible exact wkCs_refl _) | refine And.intro ?_ ?_))
      all_goals rfl
    · exact ⟨wkE_refl _, wkE_refl _, wkE_nil, wkH_nil _⟩
    rintro ⟨l, j, ob, cap⟩ ⟨hj, hx, hob, hlj⟩
    cases hd0 : T.drop (2 * j) with
    | nil =>
      have hje := drop_end hd0 hj
      rw [hd0] at hx
      have hx2 : hexP T = some l := by rw [← hx]; show some (l ++ []) = _; rw [List.append_nil]
      rw [hx2]
      ((conv => whnf); (repeat ((first | refine BoxN.own ?_ | refine RwN.own ?_ | refine VrN.norm (wrap_i64 (by omega)) ?_ | refine VrN.keep ?_ | refine DrawN.calm (by decide +kernel) ?_ | refine Nd.mk (by decide +kernel) ?_ | refine Nd.mk (by omega) ?_ | (refine Nd.mk ?_ ?_; focus ((repeat' (first | exact trivial | exact wkE_refl _ | refine And.intro ?_ ?_)); done)) | refine RdN.intro _ rfl (by rfl) ?_); (conv => whnf))))
      rw [hzT]
      refine brd_dec (fun h => absurd h (by omega)) (fun _ => ?_)
      ((conv => whnf); (repeat ((first | refine BoxN.own ?_ | refine RwN.own ?_ | refine VrN.norm (wrap_i64 (by omega)) ?_ | refine VrN.keep ?_ | refine DrawN.calm (by decide +kernel) ?_ | refine Nd.mk (by decide +kernel) ?_ | refine Nd.mk (by omega) ?_ | (refine Nd.mk ?_ ?_; focus ((repeat' (first | exact trivial | exact wkE_refl _ | refine And.intro ?_ ?_)); done)) | refine RdN.intro _ rfl (by rfl) ?_); (conv => whnf))))
      exact fin_p _ ⟨_, rfl, ob, cap, rfl, fun h => (hob h).1, fun w hw => by simpa using hw⟩ (fun w hw => hw.2.1)
    | cons x r =>
      obtain ⟨hb1, hl1, hdr1, hln1⟩ := drop_at hd0
      cases r with
      | nil => exact absurd hln1 (by simp; omega)
      | cons y r2 =>
        obtain ⟨hb2, hl2, hdr2, _⟩ := drop_at hdr1
        have hb1' : byteAt (bs T) (Int.toNat ((2 * j : Nat) : Int)) = (x.toNat : Int) := by rw [Int.toNat_natCast]; exact hb1
        have hw1 : IntKind.i64.wrap (((2 * j : Nat) : Int) + 1) = ((2 * j + 1 : Nat) : Int) := by rw [wrap_i64 (by omega)]; omega
        have hb2' : byteAt (bs T) (Int.toNat (IntKind.i64.wrap (((2 * j : Nat) : Int) + 1))) = (y.toNat : Int) := by rw [hw1, Int.toNat_natCast]; exact hb2
        ((conv => whnf); (repeat ((first | refine BoxN.own ?_ | refine RwN.own ?_ | refine VrN.norm (wrap_i64 (by omega)) ?_ | refine VrN.keep ?_ | refine DrawN.calm (by decide +kernel) ?_ | refine Nd.mk (by decide +kernel) ?_ | refine Nd.mk (by omega) ?_ | (refine Nd.mk ?_ ?_; focus ((repeat' (first | exact trivial | exact wkE_refl _ | refine And.intro ?_ ?_)); done)) | refine RdN.intro _ rfl (by rfl) ?_); (conv => whnf))))
        rw [hzT]
        refine brd_dec (fun _ => ?_) (fun h => absurd h (by omega))
        ((conv => whnf); (repeat ((first | refine BoxN.own ?_ | refine RwN.own ?_ | refine VrN.norm (wrap_i64 (by omega)) ?_ | refine VrN.keep ?_ | refine DrawN.calm (by decide +kernel) ?_ | refine Nd.mk (by decide +kernel) ?_ | refine Nd.mk (by omega) ?_ | (refine Nd.mk ?_ ?_; focus ((repeat' (first | exact trivial | exact wkE_refl _ | refine And.intro ?_ ?_)); done)) | refine RdN.intro _ rfl (by rfl) ?_); (conv => whnf))))
        rw [hb1']
        refine call1 (digit_c x _) ?_
        have hxp : hexP (x :: y :: r2) = match hexV x, hexV y, hexP r2 with | some x, some y, some l => some (UInt8.ofNat (16 * x + y) :: l) | _, _, _ => none := rfl
        rw [hd0, hxp] at hx
        cases hvx : hexV x with
        | none =>
          rw [hvx] at hx
          ((conv => whnf); (repeat ((first | refine BoxN.own ?_ | refine RwN.own ?_ | refine VrN.norm (wrap_i64 (by omega)) ?_ | refine VrN.keep ?_ | refine DrawN.calm (by decide +kernel) ?_ | refine Nd.mk (by decide +kernel) ?_ | refine Nd.mk (by omega) ?_ | (refine Nd.mk ?_ ?_; focus ((repeat' (first | exact trivial | exact wkE_refl _ | refine And.intro ?_ ?_)); done)) | refine RdN.intro _ rfl (by rfl) ?_); (conv => whnf))))
          rw [hb2']
          refine call1 (digit_c y _) ?_
          rw [← hx]
          cases hvy : hexV y with
          | none =>
            ((conv => whnf); (repeat ((first | refine BoxN.own ?_ | refine RwN.own ?_ | refine VrN.norm (wrap_i64 (by omega)) ?_ | refine VrN.keep ?_ | refine DrawN.calm (by decide +kernel) ?_ | refine Nd.mk (by decide +kernel) ?_ | refine Nd.mk (by omega) ?_ | (refine Nd.mk ?_ ?_; focus ((repeat' (first | exact trivial | exact wkE_refl _ | refine And.intro ?_ ?_)); done)) | refine RdN.intro _ rfl (by rfl) ?_); (conv => whnf))))
            exact fin_v rfl
          | some q =>
            ((conv => whnf); (repeat ((first | refine BoxN.own ?_ | refine RwN.own ?_ | refine VrN.norm (wrap_i64 (by omega)) ?_ | refine VrN.keep ?_ | refine DrawN.calm (by decide +kernel) ?_ | refine Nd.mk (by decide +kernel) ?_ | refine Nd.mk (by omega) ?_ | (refine Nd.mk ?_ ?_; focus ((repeat' (first | exact trivial | exact wkE_refl _ | refine And.intro ?_ ?_)); done)) | refine RdN.intro _ rfl (by rfl) ?_); (conv => whnf))))
            exact fin_v rfl
        | some p =>
          ((conv => whnf); (repeat ((first | refine BoxN.own ?_ | refine RwN.own ?_ | refine VrN.norm (wrap_i64 (by omega)) ?_ | refine VrN.keep ?_ | refine DrawN.calm (by decide +kernel) ?_ | refine Nd.mk (by decide +kernel) ?_ | refine Nd.mk (by omega) ?_ | (refine Nd.mk ?_ ?_; focus ((repeat' (first | exact trivial | exact wkE_refl _ | refine And.intro ?_ ?_)); done)) | refine RdN.intro _ rfl (by rfl) ?_); (conv => whnf))))
          rw [hb2']
          refine call1 (digit_c y _) ?_
          cases hvy : hexV y with
          | none =>
            rw [hvx, hvy] at hx
            rw [← hx]
            ((conv => whnf); (repeat ((first | refine BoxN.own ?_ | refine RwN.own ?_ | refine VrN.norm (wrap_i64 (by omega)) ?_ | refine VrN.keep ?_ | refine DrawN.calm (by decide +kernel) ?_ | refine Nd.mk (by decide +kernel) ?_ | refine Nd.mk (by omega) ?_ | (refine Nd.mk ?_ ?_; focus ((repeat' (first | exact trivial | exact wkE_refl _ | refine And.intro ?_ ?_)); done)) | refine RdN.intro _ rfl (by rfl) ?_); (conv => whnf))))
            exact fin_v rfl
          | some q =>
            have hp := hexV_lt hvx
            have hq := hexV_lt hvy
            rw [hvx, hvy] at hx
            ((conv => whnf); (repeat ((first | refine BoxN.own ?_ | refine RwN.own ?_ | refine VrN.norm (wrap_i64 (by omega)) ?_ | refine VrN.keep ?_ | refine DrawN.calm (by decide +kernel) ?_ | refine Nd.mk (by decide +kernel) ?_ | refine Nd.mk (by omega) ?_ | (refine Nd.mk ?_ ?_; focus ((repeat' (first | exact trivial | exact wkE_refl _ | refine And.intro ?_ ?_)); done)) | refine RdN.intro _ rfl (by rfl) ?_); (conv => whnf))))
            refine Nd.mk ⟨Nat.le_refl 1, rfl, rfl⟩ ?_
            (conv => whnf)
            refine AppN.grow 2 (u8s l) [_] rfl rfl ⟨Nat.le_refl 1, ⟨by show (l.length + 1) * 1 ≤ _; omega, by omega⟩, by show 1 ≠ 0; omega⟩ fun b' cap' h1 h2 => ?_
            ((conv => whnf); (repeat ((first | refine BoxN.own ?_ | refine RwN.own ?_ | refine VrN.norm (wrap_i64 (by omega)) ?_ | refine VrN.keep ?_ | refine DrawN.calm (by decide +kernel) ?_ | refine Nd.mk (by decide +kernel) ?_ | refine Nd.mk (by omega) ?_ | (refine Nd.mk ?_ ?_; focus ((repeat' (first | exact trivial | exact wkE_refl _ | refine And.intro ?_ ?_)); done)) | refine RdN.intro _ rfl (by rfl) ?_); (conv => whnf))))
            refine ⟨(l ++ [UInt8.ofNat (16 * p + q)], j + 1, some b', cap'), ⟨by omega, ?_, (fun h => by cases h), by simp; omega⟩, by show T.length - 2 * (j + 1) < T.length - 2 * j; omega, ?_, ?_⟩
            · rw [show 2 * (j + 1) = 2 * j + 1 + 1 by omega, hdr2, ← hx]
              cases hexP r2 with
              | none => rfl
              | some m => simp
            · (repeat' (first | exact trivial | refine And.intro (by with_reducible rfl) ?_ | (with_reducible exact wkC_refl _) | (with_reducible exact wkCs_refl _) | refine And.intro ?_ ?_))
              all_goals first | (simp [at0]; done) | exact av_int (by first | omega | (rw [wrap_i64 (by omega)]; omega))
            · exact ⟨wkE_refl _, wkE_refl _, .inl ⟨rfl, rfl, by rw [wrap_u8 (x := (p : Int) * 16) (by omega), wrap_u8 (by omega)]; simp [u8s]; omega, rfl, by simp, rfl⟩, wkH_nil _⟩
  · have hk2 : d.count ≠ -2 := by simpa using h1
    ((conv => whnf); (repeat ((first | refine BoxN.own ?_ | refine RwN.own ?_ | refine VrN.norm (wrap_i64 (by omega)) ?_ | refine VrN.keep ?_ | refine DrawN.calm (by decide +kernel) ?_ | refine Nd.mk (by decide +kernel) ?_ | refine Nd.mk (by omega) ?_ | (refine Nd.mk ?_ ?_; focus ((repeat' (first | exact trivial | exact wkE_refl _ | refine And.intro ?_ ?_)); done)) | refine RdN.intro _ rfl (by rfl) ?_); (conv => whnf))))
    refine brd_eq (fun h2 => ?_) (fun h2 => ?_)
    · have hk : d.count = -1 := by simpa using h2
      have hn : cntS d s.length = s.length := by unfold cntS; rw [if_neg hk2, if_pos hk]
      rw [hn]
      ((conv => whnf); (repeat ((first | refine BoxN.own ?_ | refine RwN.own ?_ | refine VrN.norm (wrap_i64 (by omega)) ?_ | refine VrN.keep ?_ | refine DrawN.calm (by decide +kernel) ?_ | refine Nd.mk (by decide +kernel) ?_ | refine Nd.mk (by omega) ?_ | (refine Nd.mk ?_ ?_; focus ((repeat' (first | exact trivial | exact wkE_refl _ | refine And.intro ?_ ?_)); done)) | refine RdN.intro _ rfl (by rfl) ?_); (conv => whnf))))
      rw [hz]
      -- s.length: how many digits
      ((conv => whnf); (repeat ((first | refine BoxN.own ?_ | refine RwN.own ?_ | refine VrN.norm (wrap_i64 (by omega)) ?_ | refine VrN.keep ?_ | refine DrawN.calm (by decide +kernel) ?_ | refine Nd.mk (by decide +kernel) ?_ | refine Nd.mk (by omega) ?_ | (refine Nd.mk ?_ ?_; focus ((repeat' (first | exact trivial | exact wkE_refl _ | refine And.intro ?_ ?_)); done)) | refine RdN.intro _ rfl (by rfl) ?_); (conv => whnf))))
      refine ReadW.sl_h (min s.length s.length) rfl Tryd.underlying9 rfl rfl ⟨by (show minI (s.length : Int) _ = _); (first | rw [hz] | skip); (unfold minI); (split <;> omega), Nat.min_le_right _ _⟩ ?_
      rw [← List.take_eq_take_min]
      have hlt : (s.take s.length).length = min s.length s.length := List.length_take
      have ht : Int.tmod (s.length : Int) 2 = ((s.length % 2 : Nat) : Int) := (Int.ofNat_tmod s.length 2).symm
      have harg : IntKind.i64.wrap (IntKind.i64.wrap ((s.length : Int) - ((bs (s.take s.length)).size : Int)) + Int.tmod (s.length : Int) 2) = ((s.length - s.length + s.length % 2 : Nat) : Int) := by
        rw [bs_size, hlt, ht, wrap_i64 (x := (s.length : Int) - ((min s.length s.length : Nat) : Int)) (by omega), wrap_i64 (by omega)]
        try omega
      ((conv => whnf); (repeat ((first | refine BoxN.own ?_ | refine RwN.own ?_ | refine VrN.norm (wrap_i64 (by omega)) ?_ | refine VrN.keep ?_ | refine DrawN.calm (by decide +kernel) ?_ | refine Nd.mk (by decide +kernel) ?_ | refine Nd.mk (by omega) ?_ | (refine Nd.mk ?_ ?_; focus ((repeat' (first | exact trivial | exact wkE_refl _ | refine And.intro ?_ ?_)); done)) | refine RdN.intro _ rfl (by rfl) ?_); (conv => whnf))))
      rw [harg]
      refine call1 (Repeat0_c (s.length - s.length + s.length % 2) (by omega) _) ?_
      ((conv => whnf); (repeat ((first | refine BoxN.own ?_ | refine RwN.own ?_ | refine VrN.norm (wrap_i64 (by omega)) ?_ | refine VrN.keep ?_ | refine DrawN.calm (by decide +kernel) ?_ | refine Nd.mk (by decide +kernel) ?_ | refine Nd.mk (by omega) ?_ | (refine Nd.mk ?_ ?_; focus ((repeat' (first | exact trivial | exact wkE_refl _ | refine And.intro ?_ ?_)); done)) | refine RdN.intro _ rfl (by rfl) ?_); (conv => whnf))))
      refine Nd.mk (by rw [bs_size, bs_size, hlt, List.length_replicate]; omega) ?_
      rw [bs_app]
      have hT : s.take s.length ++ List.replicate (s.length - s.length + s.length % 2) 48 = hexT s.length s := rfl
      have hTl : (hexT s.length s).length = s.length + s.length % 2 := by rw [← hT]; simp; try omega
      unfold hexS
      rw [hT]
      generalize hexT s.length s = T at *
      have hzT := bs_size T
      ((conv => whnf); (repeat ((first | refine BoxN.own ?_ | refine RwN.own ?_ | refine VrN.norm (wrap_i64 (by omega)) ?_ | refine VrN.keep ?_ | refine DrawN.calm (by decide +kernel) ?_ | refine Nd.mk (by decide +kernel) ?_ | refine Nd.mk (by omega) ?_ | (refine Nd.mk ?_ ?_; focus ((repeat' (first | exact trivial | exact wkE_refl _ | refine And.intro ?_ ?_)); done)) | refine RdN.intro _ rfl (by rfl) ?_); (conv => whnf))))
      refine LoopN.intro (List UInt8 × Nat × Option Nat × Nat) (fun ⟨l, j, ob, cap⟩ => 2 * j ≤ T.length ∧ (hexP (T.drop (2 * j))).map (l ++ ·) = hexP T ∧ (ob = none → l = [] ∧ cap = 0) ∧ l.length = j)
        (fun ⟨l, j, ob, cap⟩ => mkS Tryd.f35.ntmps 0 [(1, .c (.v (.string (bs T)))), (7, .c (.v (.slice (at0 ob) l.length cap))), (8, .c (.v (.int .i64 ((2 * j : Nat) : Int))))])
        (fun ⟨l, _, ob, cap⟩ => [.fact fun _ => True, .blk 57 [.v (.int .u8 (d.letter.toNat : Int)), .v (.bool d.big), .v (.int .i64 d.count)], .app 5 1 (u8s l) (at0 ob) l.length cap]) (fun ⟨_, j, _, _⟩ => T.length - 2 * j) [.app 0 0 [] none 0 0] rfl
        (fun _ => rfl) (fun _ => rfl) (fun _ _ => okHB_eq rfl) ⟨([], 0, none, 0), ⟨Nat.zero_le _, by rw [Nat.mul_zero, List.drop_zero]; cases hexP T <;> rfl, fun _ => ⟨rfl, rfl⟩, rfl⟩, ?_, ?_⟩ ?_
      · (repeat' (first | exact trivial | refine And.intro (by with_reducible rfl) ?_ | (with_reducible exact wkC_refl _) | (with_reducible exact wkCs_refl _) | refine And.intro ?_ ?_))
        all_goals rfl
      · exact ⟨wkE_refl _, wkE_refl _, wkE_nil, wkH_nil _⟩
      rintro ⟨l, j, ob, cap⟩ ⟨hj, hx, hob, hlj⟩
      cases hd0 : T.drop (2 * j) with
      | nil =>
        have hje := drop_end hd0 hj
        rw [hd0] at hx
        have hx2 : hexP T = some l := by rw [← hx]; show some (l ++ []) = _; rw [List.append_nil]
        rw [hx2]
        ((conv => whnf); (repeat ((first | refine BoxN.own ?_ | refine RwN.own ?_ | refine VrN.norm (wrap_i64 (by omega)) ?_ | refine VrN.keep ?_ | refine DrawN.calm (by decide +kernel) ?_ | refine Nd.mk (by decide +kernel) ?_ | refine Nd.mk (by omega) ?_ | (refine Nd.mk ?_ ?_; focus ((repeat' (first | exact trivial | exact wkE_refl _ | refine And.intro ?_ ?_)); done)) | refine RdN.intro _ rfl (by rfl) ?_); (conv => whnf))))
        rw [hzT]
        refine brd_dec (fun h => absurd h (by omega)) (fun _ => ?_)
        ((conv => whnf); (repeat ((first | refine BoxN.own ?_ | refine RwN.own ?_ | refine VrN.norm (wrap_i64 (by omega)) ?_ | refine VrN.keep ?_ | refine DrawN.calm (by decide +kernel) ?_ | refine Nd.mk (by decide +kernel) ?_ | refine Nd.mk (by omega) ?_ | (refine Nd.mk ?_ ?_; focus ((repeat' (first | exact trivial | exact wkE_refl _ | refine And.intro ?_ ?_)); done)) | refine RdN.intro _ rfl (by rfl) ?_); (conv => whnf))))
        exact fin_p _ ⟨_, rfl, ob, cap, rfl, fun h => (hob h).1, fun w hw => by simpa using hw⟩ (fun w hw => hw.2.1)
      | cons x r =>
        obtain ⟨hb1, hl1, hdr1, hln1⟩ := drop_at hd0
        cases r with
        | nil => exact absurd hln1 (by simp; omega)
        | cons y r2 =>
          obtain ⟨hb2, hl2, hdr2, _⟩ := drop_at hdr1
          have hb1' : byteAt (bs T) (Int.toNat ((2 * j : Nat) : Int)) = (x.toNat : Int) := by rw [Int.toNat_natCast]; exact hb1
          have hw1 : IntKind.i64.wrap (((2 * j : Nat) : Int) + 1) = ((2 * j + 1 : Nat) : Int) := by rw [wrap_i64 (by omega)]; omega
          have hb2' : byteAt (bs T) (Int.toNat (IntKind.i64.wrap (((2 * j : Nat) : Int) + 1))) = (y.toNat : Int) := by rw [hw1, Int.toNat_natCast]; exact hb2
          ((conv => whnf); (repeat ((first | refine BoxN.own ?_ | refine RwN.own ?_ | refine VrN.norm (wrap_i64 (by omega)) ?_ | refine VrN.keep ?_ | refine DrawN.calm (by decide +kernel) ?_ | refine Nd.mk (by decide +kernel) ?_ | refine Nd.mk (by omega) ?_ | (refine Nd.mk ?_ ?_; focus ((repeat' (first | exact trivial | exact wkE_refl _ | refine And.intro ?_ ?_)); done)) | refine RdN.intro _ rfl (by rfl) ?_); (conv => whnf))))
          rw [hzT]
          refine brd_dec (fun _ => ?_) (fun h => absurd h (by omega))
          ((conv => whnf); (repeat ((first | refine BoxN.own ?_ | refine RwN.own ?_ | refine VrN.norm (wrap_i64 (by omega)) ?_ | refine VrN.keep ?_ | refine DrawN.calm (by decide +kernel) ?_ | refine Nd.mk (by decide +kernel) ?_ | refine Nd.mk (by omega) ?_ | (refine Nd.mk ?_ ?_; focus ((repeat' (first | exact trivial | exact wkE_refl _ | refine And.intro ?_ ?_)); done)) | refine RdN.intro _ rfl (by rfl) ?_); (conv => whnf))))
          rw [hb1']
          refine call1 (digit_c x _) ?_
          have hxp : hexP (x :: y :: r2) = match hexV x, hexV y, hexP r2 with | some x, some y, some l => some (UInt8.ofNat (16 * x + y) :: l) | _, _, _ => none := rfl
          rw [hd0, hxp] at hx
          cases hvx : hexV x with
          | none =>
            rw [hvx] at hx
            ((conv => whnf); (repeat ((first | refine BoxN.own ?_ | refine RwN.own ?_ | refine VrN.norm (wrap_i64 (by omega)) ?_ | refine VrN.keep ?_ | refine DrawN.calm (by decide +kernel) ?_ | refine Nd.mk (by decide +kernel) ?_ | refine Nd.mk (by omega) ?_ | (refine Nd.mk ?_ ?_; focus ((repeat' (first | exact trivial | exact wkE_refl _ | refine And.intro ?_ ?_)); done)) | refine RdN.intro _ rfl (by rfl) ?_); (conv => whnf))))
            rw [hb2']
            refine call1 (digit_c y _) ?_
            rw [← hx]
            cases hvy : hexV y with
            | none =>
              ((conv => whnf); (repeat ((first | refine BoxN.own ?_ | refine RwN.own ?_ | refine VrN.norm (wrap_i64 (by omega)) ?_ | refine VrN.keep ?_ | refine DrawN.calm (by decide +kernel) ?_ | refine Nd.mk (by decide +kernel) ?_ | refine Nd.mk (by omega) ?_ | (refine Nd.mk ?_ ?_; focus ((repeat' (first | exact trivial | exact wkE_refl _ | refine And.intro ?_ ?_)); done)) | refine RdN.intro _ rfl (by rfl) ?_); (conv => whnf))))
              exact fin_v rfl
            | some q =>
              ((conv => whnf); (repeat ((first | refine BoxN.own ?_ | refine RwN.own ?_ | refine VrN.norm (wrap_i64 (by omega)) ?_ | refine VrN.keep ?_ | refine DrawN.calm (by decide +kernel) ?_ | refine Nd.mk (by decide +kernel) ?_ | refine Nd.mk (by omega) ?_ | (refine Nd.mk ?_ ?_; focus ((repeat' (first | exact trivial | exact wkE_refl _ | refine And.intro ?_ ?_)); done)) | refine RdN.intro _ rfl (by rfl) ?_); (conv => whnf))))
              exact fin_v rfl
          | some p =>
            ((conv => whnf); (repeat ((first | refine BoxN.own ?_ | refine RwN.own ?_ | refine VrN.norm (wrap_i64 (by omega)) ?_ | refine VrN.keep ?_ | refine DrawN.calm (by decide +kernel) ?_ | refine Nd.mk (by decide +kernel) ?_ | refine Nd.mk (by omega) ?_ | (refine Nd.mk ?_ ?_; focus ((repeat' (first | exact trivial | exact wkE_refl _ | refine And.intro ?_ ?_)); done)) | refine RdN.intro _ rfl (by rfl) ?_); (conv => whnf))))
            rw [hb2']
            refine call1 (digit_c y _) ?_
            cases hvy : hexV y with
            | none =>
              rw [hvx, hvy] at hx
              rw [← hx]
              ((conv => whnf); (repeat ((first | refine BoxN.own ?_ | refine RwN.own ?_ | refine VrN.norm (wrap_i64 (by omega)) ?_ | refine VrN.keep ?_ | refine DrawN.calm (by decide +kernel) ?_ | refine Nd.mk (by decide +kernel) ?_ | refine Nd.mk (by omega) ?_ | (refine Nd.mk ?_ ?_; focus ((repeat' (first | exact trivial | exact wkE_refl _ | refine And.intro ?_ ?_)); done)) | refine RdN.intro _ rfl (by rfl) ?_); (conv => whnf))))
              exact fin_v rfl
            | some q =>
              have hp := hexV_lt hvx
              have hq := hexV_lt hvy
              rw [hvx, hvy] at hx
              ((conv => whnf); (repeat ((first | refine BoxN.own ?_ | refine RwN.own ?_ | refine VrN.norm (wrap_i64 (by omega)) ?_ | refine VrN.keep ?_ | refine DrawN.calm (by decide +kernel) ?_ | refine Nd.mk (by decide +kernel) ?_ | refine Nd.mk (by omega) ?_ | (refine Nd.mk ?_ ?_; focus ((repeat' (first | exact trivial | exact wkE_refl _ | refine And.intro ?_ ?_)); done)) | refine RdN.intro _ rfl (by rfl) ?_); (conv => whnf))))
              refine Nd.mk ⟨Nat.le_refl 1, rfl, rfl⟩ ?_
              (conv => whnf)
              refine AppN.grow 2 (u8s l) [_] rfl rfl ⟨Nat.le_refl 1, ⟨by show (l.length + 1) * 1 ≤ _; omega, by omega⟩, by show 1 ≠ 0; omega⟩ fun b' cap' h1 h2 => ?_
              ((conv => whnf); (repeat ((first | refine BoxN.own ?_ | refine RwN.own ?_ | refine VrN.norm (wrap_i64 (by omega)) ?_ | refine VrN.keep ?_ | refine DrawN.calm (by decide +kernel) ?_ | refine Nd.mk (by decide +kernel) ?_ | refine Nd.mk (by omega) ?_ | (refine Nd.mk ?_ ?_; focus ((repeat' (first | exact trivial | exact wkE_refl _ | refine And.intro ?_ ?_)); done)) | refine RdN.intro _ rfl (by rfl) ?_); (conv => whnf))))
              refine ⟨(l ++ [UInt8.ofNat (16 * p + q)], j + 1, some b', cap'), ⟨by omega, ?_, (fun h => by cases h), by simp; omega⟩, by show T.length - 2 * (j + 1) < T.length - 2 * j; omega, ?_, ?_⟩
              · rw [show 2 * (j + 1) = 2 * j + 1 + 1 by omega, hdr2, ← hx]
                cases hexP r2 with
                | none => rfl
                | some m => simp
              · (repeat' (first | exact trivial | refine And.intro (by with_reducible rfl) ?_ | (with_reducible exact wkC_refl _) | (with_reducible exact wkCs_refl _) | refine And.intro ?_ ?_))
                all_goals first | (simp [at0]; done) | exact av_int (by first | omega | (rw [wrap_i64 (by omega)]; omega))
              · exact ⟨wkE_refl _, wkE_refl _, .inl ⟨rfl, rfl, by rw [wrap_u8 (x := (p : Int) * 16) (by omega), wrap_u8 (by omega)]; simp [u8s]; omega, rfl, by simp, rfl⟩, wkH_nil _⟩
    · have hk1 : d.count ≠ -1 := by simpa using h2
      have hd : 0 ≤ d.count ∧ d.count ≤ 1000 := by
        rcases hd with h | h | h
        · exact h
        · exact absurd h hk1
        · exact absurd h hk2
      obtain ⟨n, hk⟩ := Int.eq_ofNat_of_zero_le hd.1
      have hn : cntS d s.length = n := by
        unfold cntS
        rw [if_neg hk2, if_neg hk1, hk]
        rfl
      have hn1 : n ≤ 1000 := by omega
      rw [hn]
      ((conv => whnf); (repeat ((first | refine BoxN.own ?_ | refine RwN.own ?_ | refine VrN.norm (wrap_i64 (by omega)) ?_ | refine VrN.keep ?_ | refine DrawN.calm (by decide +kernel) ?_ | refine Nd.mk (by decide +kernel) ?_ | refine Nd.mk (by omega) ?_ | (refine Nd.mk ?_ ?_; focus ((repeat' (first | exact trivial | exact wkE_refl _ | refine And.intro ?_ ?_)); done)) | refine RdN.intro _ rfl (by rfl) ?_); (conv => whnf))))
      rw [hk]
      -- n: how many digits
      ((conv => whnf); (repeat ((first | refine BoxN.own ?_ | refine RwN.own ?_ | refine VrN.norm (wrap_i64 (by omega)) ?_ | refine VrN.keep ?_ | refine DrawN.calm (by decide +kernel) ?_ | refine Nd.mk (by decide +kernel) ?_ | refine Nd.mk (by omega) ?_ | (refine Nd.mk ?_ ?_; focus ((repeat' (first | exact trivial | exact wkE_refl _ | refine And.intro ?_ ?_)); done)) | refine RdN.intro _ rfl (by rfl) ?_); (conv => whnf))))
      refine ReadW.sl_h (min n s.length) rfl Tryd.underlying9 rfl rfl ⟨by (show minI (n : Int) _ = _); (first | rw [hz] | skip); (unfold minI); (split <;> omega), Nat.min_le_right _ _⟩ ?_
      rw [← List.take_eq_take_min]
      have hlt : (s.take n).length = min n s.length := List.length_take
      have ht : Int.tmod (n : Int) 2 = ((n % 2 : Nat) : Int) := (Int.ofNat_tmod n 2).symm
      have harg : IntKind.i64.wrap (IntKind.i64.wrap ((n : Int) - ((bs (s.take n)).size : Int)) + Int.tmod (n : Int) 2) = ((n - s.length + n % 2 : Nat) : Int) := by
        rw [bs_size, hlt, ht, wrap_i64 (x := (n : Int) - ((min n s.length : Nat) : Int)) (by omega), wrap_i64 (by omega)]
        try omega
      ((conv => whnf); (repeat ((first | refine BoxN.own ?_ | refine RwN.own ?_ | refine VrN.norm (wrap_i64 (by omega)) ?_ | refine VrN.keep ?_ | refine DrawN.calm (by decide +kernel) ?_ | refine Nd.mk (by decide +kernel) ?_ | refine Nd.mk (by omega) ?_ | (refine Nd.mk ?_ ?_; focus ((repeat' (first | exact trivial | exact wkE_refl _ | refine And.intro ?_ ?_)); done)) | refine RdN.intro _ rfl (by rfl) ?_); (conv => whnf))))
      rw [harg]
      refine call1 (Repeat0_c (n - s.length + n % 2) (by omega) _) ?_
      ((conv => whnf); (repeat ((first | refine BoxN.own ?_ | refine RwN.own ?_ | refine VrN.norm (wrap_i64 (by omega)) ?_ | refine VrN.keep ?_ | refine DrawN.calm (by decide +kernel) ?_ | refine Nd.mk (by decide +kernel) ?_ | refine Nd.mk (by omega) ?_ | (refine Nd.mk ?_ ?_; focus ((repeat' (first | exact trivial | exact wkE_refl _ | refine And.intro ?_ ?_)); done)) | refine RdN.intro _ rfl (by rfl) ?_); (conv => whnf))))
      refine Nd.mk (by rw [bs_size, bs_size, hlt, List.length_replicate]; omega) ?_
      rw [bs_app]
      have hT : s.take n ++ List.replicate (n - s.length + n % 2) 48 = hexT n s := rfl
      have hTl : (hexT n s).length = n + n % 2 := by rw [← hT]; simp; try omega
      unfold hexS
      rw [hT]
      generalize hexT n s = T at *
      have hzT := bs_size T
      ((conv => whnf); (repeat ((first | refine BoxN.own ?_ | refine RwN.own ?_ | refine VrN.norm (wrap_i64 (by omega)) ?_ | refine VrN.keep ?_ | refine DrawN.calm (by decide +kernel) ?_ | refine Nd.mk (by decide +kernel) ?_ | refine Nd.mk (by omega) ?_ | (refine Nd.mk ?_ ?_; focus ((repeat' (first | exact trivial | exact wkE_refl _ | refine And.intro ?_ ?_)); done)) | refine RdN.intro _ rfl (by rfl) ?_); (conv => whnf))))
      refine LoopN.intro (List UInt8 × Nat × Option Nat × Nat) (fun ⟨l, j, ob, cap⟩ => 2 * j ≤ T.length ∧ (hexP (T.drop (2 * j))).map (l ++ ·) = hexP T ∧ (ob = none → l = [] ∧ cap = 0) ∧ l.length = j)
        (fun ⟨l, j, ob, cap⟩ => mkS Tryd.f35.ntmps 0 [(1, .c (.v (.string (bs T)))), (7, .c (.v (.slice (at0 ob) l.length cap))), (8, .c (.v (.int .i64 ((2 * j : Nat) : Int))))])
        (fun ⟨l, _, ob, cap⟩ => [.fact fun _ => True, .blk 57 [.v (.int .u8 (d.letter.toNat : Int)), .v (.bool d.big), .v (.int .i64 d.count)], .app 5 1 (u8s l) (at0 ob) l.length cap]) (fun ⟨_, j, _, _⟩ => T.length - 2 * j) [.app 0 0 [] none 0 0] rfl
        (fun _ => rfl) (fun _ => rfl) (fun _ _ => okHB_eq rfl) ⟨([], 0, none, 0), ⟨Nat.zero_le _, by rw [Nat.mul_zero, List.drop_zero]; cases hexP T <;> rfl, fun _ => ⟨rfl, rfl⟩, rfl⟩, ?_, ?_⟩ ?_
      · (repeat' (first | exact trivial | refine And.intro (by with_reducible rfl) ?_ | (with_reducible exact wkC_refl _) | (with_reducible exact wkCs_refl _) | refine And.intro ?_ ?_))
        all_goals rfl
      · exact ⟨wkE_refl _, wkE_refl _, wkE_nil, wkH_nil _⟩
      rintro ⟨l, j, ob, cap⟩ ⟨hj, hx, hob, hlj⟩
      cases hd0 : T.drop (2 * j) with
      | nil =>
        have hje := drop_end hd0 hj
        rw [hd0] at hx
        have hx2 : hexP T = some l := by rw [← hx]; show some (l ++ []) = _; rw [List.append_nil]
        rw [hx2]
        ((conv => whnf); (repeat ((first | refine BoxN.own ?_ | refine RwN.own ?_ | refine VrN.norm (wrap_i64 (by omega)) ?_ | refine VrN.keep ?_ | refine DrawN.calm (by decide +kernel) ?_ | refine Nd.mk (by decide +kernel) ?_ | refine Nd.mk (by omega) ?_ | (refine Nd.mk ?_ ?_; focus ((repeat' (first | exact trivial | exact wkE_refl _ | refine And.intro ?_ ?_)); done)) | refine RdN.intro _ rfl (by rfl) ?_); (conv => whnf))))
        rw [hzT]
        refine brd_dec (fun h => absurd h (by omega)) (fun _ => ?_)
        ((conv => whnf); (repeat ((first | refine BoxN.own ?_ | refine RwN.own ?_ | refine VrN.norm (wrap_i64 (by omega)) ?_ | refine VrN.keep ?_ | refine DrawN.calm (by decide +kernel) ?_ | refine Nd.mk (by decide +kernel) ?_ | refine Nd.mk (by omega) ?_ | (refine Nd.mk ?_ ?_; focus ((repeat' (first | exact trivial | exact wkE_refl _ | refine And.intro ?_ ?_)); done)) | refine RdN.intro _ rfl (by rfl) ?_); (conv => whnf))))
        exact fin_p _ ⟨_, rfl, ob, cap, rfl, fun h => (hob h).1, fun w hw => by simpa using hw⟩ (fun w hw => hw.2.1)
      | cons x r =>
        obtain ⟨hb1, hl1, hdr1, hln1⟩ := drop_at hd0
        cases r with
        | nil => exact absurd hln1 (by simp; omega)
        | cons y r2 =>
          obtain ⟨hb2, hl2, hdr2, _⟩ := drop_at hdr1
          have hb1' : byteAt (bs T) (Int.toNat ((2 * j : Nat) : Int)) = (x.toNat : Int) := by rw [Int.toNat_natCast]; exact hb1
          have hw1 : IntKind.i64.wrap (((2 * j : Nat) : Int) + 1) = ((2 * j + 1 : Nat) : Int) := by rw [wrap_i64 (by omega)]; omega
          have hb2' : byteAt (bs T) (Int.toNat (IntKind.i64.wrap (((2 * j : Nat) : Int) + 1))) = (y.toNat : Int) := by rw [hw1, Int.toNat_natCast]; exact hb2
          ((conv => whnf); (repeat ((first | refine BoxN.own ?_ | refine RwN.own ?_ | refine VrN.norm (wrap_i64 (by omega)) ?_ | refine VrN.keep ?_ | refine DrawN.calm (by decide +kernel) ?_ | refine Nd.mk (by decide +kernel) ?_ | refine Nd.mk (by omega) ?_ | (refine Nd.mk ?_ ?_; focus ((repeat' (first | exact trivial | exact wkE_refl _ | refine And.intro ?_ ?_)); done)) | refine RdN.intro _ rfl (by rfl) ?_); (conv => whnf))))
          rw [hzT]
          refine brd_dec (fun _ => ?_) (fun h => absurd h (by omega))
          ((conv => whnf); (repeat ((first | refine BoxN.own ?_ | refine RwN.own ?_ | refine VrN.norm (wrap_i64 (by omega)) ?_ | refine VrN.keep ?_ | refine DrawN.calm (by decide +kernel) ?_ | refine Nd.mk (by decide +kernel) ?_ | refine Nd.mk (by omega) ?_ | (refine Nd.mk ?_ ?_; focus ((repeat' (first | exact trivial | exact wkE_refl _ | refine And.intro ?_ ?_)); done)) | refine RdN.intro _ rfl (by rfl) ?_); (conv => whnf))))
          rw [hb1']
          refine call1 (digit_c x _) ?_
          have hxp : hexP (x :: y :: r2) = match hexV x, hexV y, hexP r2 with | some x, some y, some l => some (UInt8.ofNat (16 * x + y) :: l) | _, _, _ => none := rfl
          rw [hd0, hxp] at hx
          cases hvx : hexV x with
          | none =>
            rw [hvx] at hx
            ((conv => whnf); (repeat ((first | refine BoxN.own ?_ | refine RwN.own ?_ | refine VrN.norm (wrap_i64 (by omega)) ?_ | refine VrN.keep ?_ | refine DrawN.calm (by decide +kernel) ?_ | refine Nd.mk (by decide +kernel) ?_ | refine Nd.mk (by omega) ?_ | (refine Nd.mk ?_ ?_; focus ((repeat' (first | exact trivial | exact wkE_refl _ | refine And.intro ?_ ?_)); done)) | refine RdN.intro _ rfl (by rfl) ?_); (conv => whnf))))
            rw [hb2']
            refine call1 (digit_c y _) ?_
            rw [← hx]
            cases hvy : hexV y with
            | none =>
              ((conv => whnf); (repeat ((first | refine BoxN.own ?_ | refine RwN.own ?_ | refine VrN.norm (wrap_i64 (by omega)) ?_ | refine VrN.keep ?_ | refine DrawN.calm (by decide +kernel) ?_ | refine Nd.mk (by decide +kernel) ?_ | refine Nd.mk (by omega) ?_ | (refine Nd.mk ?_ ?_; focus ((repeat' (first | exact trivial | exact wkE_refl _ | refine And.intro ?_ ?_)); done)) | refine RdN.intro _ rfl (by rfl) ?_); (conv => whnf))))
              exact fin_v rfl
            | some q =>
              ((conv => whnf); (repeat ((first | refine BoxN.own ?_ | refine RwN.own ?_ | refine VrN.norm (wrap_i64 (by omega)) ?_ | refine VrN.keep ?_ | refine DrawN.calm (by decide +kernel) ?_ | refine Nd.mk (by decide +kernel) ?_ | refine Nd.mk (by omega) ?_ | (refine Nd.mk ?_ ?_; focus ((repeat' (first | exact trivial | exact wkE_refl _ | refine And.intro ?_ ?_)); done)) | refine RdN.intro _ rfl (by rfl) ?_); (conv => whnf))))
              exact fin_v rfl
          | some p =>
            ((conv => whnf); (repeat ((first | refine BoxN.own ?_ | refine RwN.own ?_ | refine VrN.norm (wrap_i64 (by omega)) ?_ | refine VrN.keep ?_ | refine DrawN.calm (by decide +kernel) ?_ | refine Nd.mk (by decide +kernel) ?_ | refine Nd.mk (by omega) ?_ | (refine Nd.mk ?_ ?_; focus ((repeat' (first | exact trivial | exact wkE_refl _ | refine And.intro ?_ ?_)); done)) | refine RdN.intro _ rfl (by rfl) ?_); (conv => whnf))))
            rw [hb2']
            refine call1 (digit_c y _) ?_
            cases hvy : hexV y with
            | none =>
              rw [hvx, hvy] at hx
              rw [← hx]
              ((conv => whnf); (repeat ((first | refine BoxN.own ?_ | refine RwN.own ?_ | refine VrN.norm (wrap_i64 (by omega)) ?_ | refine VrN.keep ?_ | refine DrawN.calm (by decide +kernel) ?_ | refine Nd.mk (by decide +kernel) ?_ | refine Nd.mk (by omega) ?_ | (refine Nd.mk ?_ ?_; focus ((repeat' (first | exact trivial | exact wkE_refl _ | refine And.intro ?_ ?_)); done)) | refine RdN.intro _ rfl (by rfl) ?_); (conv => whnf))))
              exact fin_v rfl
            | some q =>
              have hp := hexV_lt hvx
              have hq := hexV_lt hvy
              rw [hvx, hvy] at hx
              ((conv => whnf); (repeat ((first | refine BoxN.own ?_ | refine RwN.own ?_ | refine VrN.norm (wrap_i64 (by omega)) ?_ | refine VrN.keep ?_ | refine DrawN.calm (by decide +kernel) ?_ | refine Nd.mk (by decide +kernel) ?_ | refine Nd.mk (by omega) ?_ | (refine Nd.mk ?_ ?_; focus ((repeat' (first | exact trivial | exact wkE_refl _ | refine And.intro ?_ ?_)); done)) | refine RdN.intro _ rfl (by rfl) ?_); (conv => whnf))))
              refine Nd.mk ⟨Nat.le_refl 1, rfl, rfl⟩ ?_
              (conv => whnf)
              refine AppN.grow 2 (u8s l) [_] rfl rfl ⟨Nat.le_refl 1, ⟨by show (l.length + 1) * 1 ≤ _; omega, by omega⟩, by show 1 ≠ 0; omega⟩ fun b' cap' h1 h2 => ?_
              ((conv => whnf); (repeat ((first | refine BoxN.own ?_ | refine RwN.own ?_ | refine VrN.norm (wrap_i64 (by omega)) ?_ | refine VrN.keep ?_ | refine DrawN.calm (by decide +kernel) ?_ | refine Nd.mk (by decide +kernel) ?_ | refine Nd.mk (by omega) ?_ | (refine Nd.mk ?_ ?_; focus ((repeat' (first | exact trivial | exact wkE_refl _ | refine And.intro ?_ ?_)); done)) | refine RdN.intro _ rfl (by rfl) ?_); (conv => whnf))))
              refine ⟨(l ++ [UInt8.ofNat (16 * p + q)], j + 1, some b', cap'), ⟨by omega, ?_, (fun h => by cases h), by simp; omega⟩, by show T.length - 2 * (j + 1) < T.length - 2 * j; omega, ?_, ?_⟩
              · rw [show 2 * (j + 1) = 2 * j + 1 + 1 by omega, hdr2, ← hx]
                cases hexP r2 with
                | none => rfl
                | some m => simp
              · (repeat' (first | exact trivial | refine And.intro (by with_reducible rfl) ?_ | (with_reducible exact wkC_refl _) | (with_reducible exact wkCs_refl _) | refine And.intro ?_ ?_))
                all_goals first | (simp [at0]; done) | exact av_int (by first | omega | (rw [wrap_i64 (by omega)]; omega))
              · exact ⟨wkE_refl _, wkE_refl _, .inl ⟨rfl, rfl, by rw [wrap_u8 (x := (p : Int) * 16) (by omega), wrap_u8 (by omega)]; simp [u8s]; omega, rfl, by simp, rfl⟩, wkH_nil _⟩
end Go.Proofs.YtjkchonpnocffaaDoor
