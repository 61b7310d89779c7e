/-
  Contracts of clock's isYear, leap, month, down, days and date.
-/
import Derived.Test.YtnecdpkmmncfaaaDoorAx12
import Derived.Test.YtnecdpkmmncfaaaDoorRows
import Derived.Test.YtnecdpkmmncfaaaDoorP1
import Derived.Test.YtnecdpkmmncfaaaDoorP2
import Derived.KernelRfl
namespace Go.Proofs.YtnecdpkmmncfaaaDoor
open Go.AX
set_option maxRecDepth 20000
theorem hm : Tryd.prog.follows .mixedOrders = true := by kernel_rfl

theorem isYear_c (y : Int) : ∀ H, SpecH Tryd.prog 41 (pvs [.int .i64 y]) H (Ret (.bool (decide (-2000 ≤ y ∧ y ≤ 6000))) H) := by
  refine pureC hm Tryd.func41 (by kernel_rfl) rfl rfl ?_
  repeat' ((conv => whnf); first | refine VrN.keep ?_ | refine brd_dec (fun h => ?_) (fun h => ?_) | refine brd_eq (fun h => ?_) (fun h => ?_) | refine brd_ne (fun h => ?_) (fun h => ?_))
  all_goals ((conv => whnf); (repeat ((refine VrN.keep ?_); (conv => whnf))))
  · exact out_bool (by simp; omega)
  · exact out_bool (by simp; omega)

theorem leap_c (y : Int) : ∀ H, SpecH Tryd.prog 52 (pvs [.int .i64 y]) H (Ret (.bool (Cal.leapB y)) H) := by
  refine pureC hm Tryd.func52 (by kernel_rfl) rfl rfl ?_
  repeat' ((conv => whnf); first | refine VrN.keep ?_ | refine brd_dec (fun h => ?_) (fun h => ?_) | refine brd_eq (fun h => ?_) (fun h => ?_) | refine brd_ne (fun h => ?_) (fun h => ?_))
  all_goals (((conv => whnf); (repeat ((refine VrN.keep ?_); (conv => whnf)))); refine out_bool ?_; simp only [Cal.tmod_zero] at *; simp [Cal.leapB, Cal.leapP, Cal.tmod_beq, *])

set_option maxRecDepth 10000 in
theorem month_c (y m : Int) (h1 : 1 ≤ m) (h2 : m ≤ 12) : ∀ H, SpecH Tryd.prog 42 (pvs [.int .i64 y, .int .i64 m]) H (Ret (.int .i64 (Cal.mlen y m)) H) := by
  have h12 : m = 1 ∨ m = 2 ∨ m = 3 ∨ m = 4 ∨ m = 5 ∨ m = 6 ∨ m = 7 ∨ m = 8 ∨ m = 9 ∨ m = 10 ∨ m = 11 ∨ m = 12 := by omega
  clear h1 h2
  refine pureC hm Tryd.func42 (by kernel_rfl) rfl rfl ?_
  rcases h12 with rfl | rfl | rfl | rfl | rfl | rfl | rfl | rfl | rfl | rfl | rfl | rfl
  case inr.inl =>
    ((conv => whnf); (repeat ((refine VrN.keep ?_); (conv => whnf))))
    refine call1 (leap_c y _) ?_
    ((conv => whnf); (repeat ((refine VrN.keep ?_); (conv => whnf))))
    refine brd_intro (fun h => ?_) (fun h => ?_)
    · ((conv => whnf); (repeat ((refine VrN.keep ?_); (conv => whnf)))); exact out_int (by simp [Cal.mlen, h])
    · ((conv => whnf); (repeat ((refine VrN.keep ?_); (conv => whnf))))
      refine Nd.mk (by decide) ?_
      ((conv => whnf); (repeat ((refine VrN.keep ?_); (conv => whnf))))
      refine RdN.intro _ rfl rfl ?_
      ((conv => whnf); (repeat ((refine VrN.keep ?_); (conv => whnf))))
      exact out_int (by simp [Cal.mlen, h])
  all_goals
    ((conv => whnf); (repeat ((refine VrN.keep ?_); (conv => whnf))))
    refine Nd.mk (by decide) ?_
    ((conv => whnf); (repeat ((refine VrN.keep ?_); (conv => whnf))))
    refine RdN.intro _ rfl rfl ?_
    ((conv => whnf); (repeat ((refine VrN.keep ?_); (conv => whnf))))
    exact out_int (by simp [Cal.mlen])

theorem down_c (a b : Int) (hb : 0 < b) (hb2 : b ≤ 1000000000000) (ha : -1000000000000000 ≤ a ∧ a ≤ 1000000000000000) : ∀ H, SpecH Tryd.prog 48 (pvs [.int .i64 a, .int .i64 b]) H (Ret (.int .i64 (a / b)) H) := by
  refine pureC hm Tryd.func48 (by kernel_rfl) rfl rfl ?_
  ((conv => whnf); (repeat ((refine VrN.keep ?_); (conv => whnf))))
  refine Nd.mk (by omega) ?_
  ((conv => whnf); (repeat ((refine VrN.keep ?_); (conv => whnf))))
  refine Nd.mk (by omega) ?_
  ((conv => whnf); (repeat ((refine VrN.keep ?_); (conv => whnf))))
  have hd := Cal.tdiv_bd a b hb
  have hv := Cal.down_val a b hb
  refine brd_dec (fun h => ?_) (fun h => ?_)
  · ((conv => whnf); (repeat ((refine VrN.keep ?_); (conv => whnf))))
    rw [if_pos h] at hv
    exact out_int (by simp (disch := omega) only [wrap_i64]; omega)
  · ((conv => whnf); (repeat ((refine VrN.keep ?_); (conv => whnf))))
    rw [if_neg h] at hv
    exact out_int (by simp (disch := omega) only [wrap_i64]; omega)

theorem days_c (y m d : Int) (hy : -100000 ≤ y ∧ y ≤ 100000) (h1 : 1 ≤ m) (h2 : m ≤ 12) (hd : -1000 ≤ d ∧ d ≤ 1000) : ∀ H, SpecH Tryd.prog 35 (pvs [.int .i64 y, .int .i64 m, .int .i64 d]) H (Ret (.int .i64 (Cal.dn y m d)) H) := by
  refine pureC hm Tryd.func35 (by kernel_rfl) rfl rfl ?_
  ((conv => whnf); (repeat ((refine VrN.keep ?_); (conv => whnf))))
  refine brd_dec (fun h => ?_) (fun h => ?_)
  · ((conv => whnf); (repeat ((refine VrN.keep ?_); (conv => whnf))))
    refine call1 (down_c _ _ (by omega) (by omega) (by simp (disch := omega) only [wrap_i64]; omega) _) ?_
    ((conv => whnf); (repeat ((refine VrN.keep ?_); (conv => whnf))))
    refine out_int (Eq.trans ?_ (Cal.days_lo y m d h1 h))
    simp (disch := omega) only [wrap_i64, Int.tdiv_eq_ediv_of_nonneg, Int.tmod_eq_emod_of_nonneg]
  · ((conv => whnf); (repeat ((refine VrN.keep ?_); (conv => whnf))))
    refine call1 (down_c _ _ (by omega) (by omega) (by omega) _) ?_
    ((conv => whnf); (repeat ((refine VrN.keep ?_); (conv => whnf))))
    refine out_int (Eq.trans ?_ (Cal.days_hi y m d (by omega) h2))
    simp (disch := omega) only [wrap_i64, Int.tdiv_eq_ediv_of_nonneg, Int.tmod_eq_emod_of_nonneg]

theorem date_c (n : Int) (hn : -1000000000 ≤ n ∧ n ≤ 1000000000) : ∀ H, SpecH Tryd.prog 38 (pvs [.int .i64 n]) H
    (Ret (.tuple #[.int .i64 (Cal.cy n), .int .i64 (Cal.cm n), .int .i64 (Cal.cd n)]) H) := by
  have hcy := Cal.cy_bd n hn
  refine pureC hm Tryd.func38 (by kernel_rfl) rfl rfl ?_
  (conv => whnf); refine vr_name fun n1 hn1 => ?_
  rw [wrap_i64 (by omega)] at hn1
  (conv => whnf); refine call1 (down_c n1 146097 (by omega) (by omega) (by omega) _) ?_
  (conv => whnf); refine vr_name fun e he => ?_
  have heb : -10000 ≤ e ∧ e ≤ 10000 := by omega
  have he' : e = Cal.ce n := by rw [he, hn1]; rfl
  (conv => whnf); refine vr_name fun oe hoe => ?_
  simp (disch := omega) only [wrap_i64] at hoe
  have hoe' : oe = Cal.coe n := by rw [hoe, hn1, he']; rfl
  (conv => whnf); refine vr_name fun yr hyr => ?_
  simp (disch := omega) only [wrap_i64, Int.tdiv_eq_ediv_of_nonneg] at hyr
  obtain ⟨b1, b2, b3, b4, _⟩ := Cal.yoe oe yr (by omega) (by omega) hyr
  have hyr' : yr = Cal.cyr n := by rw [hyr, hoe']; rfl
  (conv => whnf); refine vr_name fun oy hoy => ?_
  simp (disch := omega) only [wrap_i64, Int.tdiv_eq_ediv_of_nonneg] at hoy
  rw [← hoy] at b3 b4
  have hoy' : oy = Cal.coy n := by rw [hoy, hoe', hyr']; rfl
  (conv => whnf); refine vr_name fun mp hmp => ?_
  simp (disch := omega) only [wrap_i64, Int.tdiv_eq_ediv_of_nonneg] at hmp
  obtain ⟨c1, c2, c3, c4⟩ := Cal.mpd oy mp b3 b4 hmp
  have hmp' : mp = Cal.cmp n := by rw [hmp, hoy']; rfl
  (conv => whnf); refine vr_name fun d hd => ?_
  simp (disch := omega) only [wrap_i64, Int.tdiv_eq_ediv_of_nonneg] at hd
  have hd' : d = Cal.cd n := by rw [hd, hoy', hmp']; rfl
  (conv => whnf); refine vr_name fun m hm => ?_
  simp (disch := omega) only [wrap_i64, Int.tmod_eq_emod_of_nonneg] at hm
  have hm' : m = Cal.cm n := by rw [hm, hmp']; rfl
  (conv => whnf); refine vr_name fun y hy => ?_
  simp (disch := omega) only [wrap_i64] at hy
  clear hn1 he hoe hyr hoy hmp hd hm
  subst hm' hd'
  ((conv => whnf); (repeat ((refine VrN.keep ?_); (conv => whnf))))
  refine brd_dec (fun h => ?_) (fun h => ?_)
  · have hy2 : IntKind.wrap .i64 (y + 1) = Cal.cy n := by
      rw [wrap_i64 (by omega), Cal.cy, if_pos h, hy, hyr', he']
    ((conv => whnf); (repeat ((refine VrN.keep ?_); (conv => whnf))))
    rw [hy2]
  · have hy2 : y = Cal.cy n := by rw [Cal.cy, if_neg h, hy, hyr', he']
    ((conv => whnf); (repeat ((refine VrN.keep ?_); (conv => whnf))))
    rw [hy2]
end Go.Proofs.YtnecdpkmmncfaaaDoor
