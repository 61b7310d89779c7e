/-
  Contract of the document's days.
-/
import Derived.Test.YtnecdpkmmncfaaaDoorC5
namespace Go.Proofs.YtnecdpkmmncfaaaDoor
open Go.AX
set_option maxRecDepth 20000

theorem leap_if (y : Int) : (if Cal.leapB y then (366 : Int) else 365) = Cal.D (y + 1) - Cal.D y := by have := Cal.D_succ y; omega
theorem D_bd (y : Int) (h : -100001 ≤ y ∧ y ≤ 100001) : -40000000 ≤ Cal.D y ∧ Cal.D y ≤ 40000000 := by unfold Cal.D; omega
theorem rdays_c (y m d k i s : Int) (hy : -100000 ≤ y ∧ y ≤ 100000) (h1 : 1 ≤ m) (h2 : m ≤ 12) (hd : -1000 ≤ d ∧ d ≤ 1000) :
    ∀ H, SpecH Tryd.prog 37 (pvs [dt y m d k i s]) H (Ret (.int .i64 (Cal.dn y m d)) H) := by
  have e1970 : Cal.D 1970 = 0 := by decide
  have hDy := D_bd y (by omega)
  refine pureC hm Tryd.func37 (by kernel_rfl) rfl rfl ?_
  (conv => whnf)
  refine loopS Int (fun j => 1970 ≤ j ∧ (j ≤ y ∨ j = 1970)) (fun j => mkS 44 0 [(0, .c (.v (dt y m d k i s))), (1, .c (.lp 0 0)), (3, .c (.v (.int .i64 (Cal.D j)))), (4, .c (.v (.int .i64 j)))]) (fun j => (y - j).toNat) rfl (fun _ => rfl) 1970 (by omega) ?_ ?_
  · (repeat' (first | exact trivial | refine And.intro (by with_reducible rfl) ?_ | (with_reducible exact wkC_refl _) | (with_reducible exact wkCs_refl _) | refine And.intro ?_ ?_))
    exact av_int e1970.symm
  intro j hj
  have hD1 := D_bd j (by omega)
  (conv => whnf)
  refine brd_dec (fun h => ?_) (fun h => ?_)
  · (conv => whnf)
    refine call1 (ryearly_c j _) ?_
    rw [leap_if]
    have hD2 := D_bd (j + 1) (by omega)
    ((conv => whnf); (repeat ((refine VrN.keep ?_); (conv => whnf))))
    refine ⟨j + 1, by omega, by omega, ?_, wkH_refl _⟩
    (repeat' (first | exact trivial | refine And.intro (by with_reducible rfl) ?_ | (with_reducible exact wkC_refl _) | (with_reducible exact wkCs_refl _) | refine And.intro ?_ ?_))
    · exact av_int (by simp (disch := omega) only [wrap_i64]; omega)
    · exact av_int (by rw [wrap_i64 (by omega)])
  ((conv => whnf); (repeat ((refine VrN.keep ?_); (conv => whnf))))
  refine loopS Int (fun t => y ≤ t ∧ (t ≤ 1970 ∨ t = y)) (fun t => mkS 44 0 [(0, .c (.v (dt y m d k i s))), (1, .c (.lp 0 0)), (3, .c (.v (.int .i64 (Cal.D j + Cal.D y - Cal.D t)))), (5, .c (.v (.int .i64 t)))]) (fun t => (1970 - t).toNat) rfl (fun _ => rfl) y (by omega) ?_ ?_
  · (repeat' (first | exact trivial | refine And.intro (by with_reducible rfl) ?_ | (with_reducible exact wkC_refl _) | (with_reducible exact wkCs_refl _) | refine And.intro ?_ ?_))
    exact av_int (by omega)
  intro t ht
  have hD3 := D_bd t (by omega)
  (conv => whnf)
  refine brd_dec (fun h' => ?_) (fun h' => ?_)
  · (conv => whnf)
    refine call1 (ryearly_c t _) ?_
    rw [leap_if]
    have hD2 := D_bd (t + 1) (by omega)
    ((conv => whnf); (repeat ((refine VrN.keep ?_); (conv => whnf))))
    refine ⟨t + 1, by omega, by omega, ?_, wkH_refl _⟩
    (repeat' (first | exact trivial | refine And.intro (by with_reducible rfl) ?_ | (with_reducible exact wkC_refl _) | (with_reducible exact wkCs_refl _) | refine And.intro ?_ ?_))
    · exact av_int (by simp (disch := omega) only [wrap_i64]; omega)
    · exact av_int (by rw [wrap_i64 (by omega)])
  have hfin : Cal.D j + Cal.D y - Cal.D t = Cal.D y := by
    rcases hj.2 with h3 | h3 <;> rcases ht.2 with h4 | h4
    · have : t = 1970 ∧ j = y := by omega
      have : y = 1970 := by omega
      subst this; simp_all
    · have : j = y := by omega
      subst this; subst h4; omega
    · have : t = 1970 := by omega
      rw [this, h3]; omega
    · subst h4
      have : j = t := by omega
      subst this; omega
  rw [hfin]
  ((conv => whnf); (repeat ((refine VrN.keep ?_); (conv => whnf))))
  refine loopS Int (fun q => 1 ≤ q ∧ q ≤ m) (fun q => mkS 44 0 [(0, .c (.v (dt y m d k i s))), (1, .c (.lp 0 0)), (3, .c (.v (.int .i64 (Cal.D y + Cal.cum y q)))), (6, .c (.v (.int .i64 q)))]) (fun q => (m - q).toNat) rfl (fun _ => rfl) 1 (by omega) ?_ ?_
  · (repeat' (first | exact trivial | refine And.intro (by with_reducible rfl) ?_ | (with_reducible exact wkC_refl _) | (with_reducible exact wkCs_refl _) | refine And.intro ?_ ?_))
    exact av_int (by have : Cal.cum y 1 = 0 := rfl
                     omega)
  intro q hq
  have hc : 0 ≤ Cal.cum y q ∧ Cal.cum y q ≤ 366 := by
    have a := Cal.cum_le y 1 q (by omega) (by omega) (by omega)
    have b := Cal.cum_le y q 13 (by omega) (by omega) (by omega)
    have c : Cal.cum y 1 = 0 := rfl
    have e := Cal.cum_13 y
    split at e <;> omega
  (conv => whnf)
  refine brd_dec (fun h'' => ?_) (fun h'' => ?_)
  · (conv => whnf)
    refine call1 (rlong_c y q (by omega) (by omega) _) ?_
    have hs := Cal.cum_succ y q (by omega) (by omega)
    have hp := Cal.mlen_pos y q
    ((conv => whnf); (repeat ((refine VrN.keep ?_); (conv => whnf))))
    refine ⟨q + 1, by omega, by omega, ?_, wkH_refl _⟩
    (repeat' (first | exact trivial | refine And.intro (by with_reducible rfl) ?_ | (with_reducible exact wkC_refl _) | (with_reducible exact wkCs_refl _) | refine And.intro ?_ ?_))
    · exact av_int (by simp (disch := omega) only [wrap_i64]; omega)
    · exact av_int (by rw [wrap_i64 (by omega)])
  have hqm : q = m := by omega
  subst hqm
  ((conv => whnf); (repeat ((refine VrN.keep ?_); (conv => whnf))))
  refine out_int ?_
  simp (disch := omega) only [wrap_i64]
  rfl
end Go.Proofs.YtnecdpkmmncfaaaDoor
