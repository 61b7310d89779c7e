/-
  Contracts of the document's seconds, of, later, AddMonths and AddDays.
-/
import Derived.Test.YtnecdpkmmncfaaaDoorC7
namespace Go.Proofs.YtnecdpkmmncfaaaDoor
open Go.AX
set_option maxRecDepth 20000

theorem rseconds_c (y m d k i s : Int) (hy : -100000 ≤ y ∧ y ≤ 100000) (h1 : 1 ≤ m) (h2 : m ≤ 12) (hd : 1 ≤ d ∧ d ≤ 31) (hh : 0 ≤ k ∧ k < 24) (hi : 0 ≤ i ∧ i < 60) (hs : 0 ≤ s ∧ s < 60) :
    ∀ H, SpecH Tryd.prog 32 (pvs [dt y m d k i s]) H (Ret (.int .i64 (Cal.secs y m d k i s)) H) := by
  refine pureC hm Tryd.func32 (by kernel_rfl) rfl rfl ?_
  (conv => whnf)
  refine DrawN.quiet (by decide +kernel) ?_
  ((conv => whnf); (repeat ((refine VrN.keep ?_); (conv => whnf))))
  refine callQ (rdays_c y m d k i s hy h1 h2 (by omega) _) ?_
  have := Cal.dn_bd y m d hy (by omega)
  ((conv => whnf); (repeat ((refine VrN.keep ?_); (conv => whnf))))
  refine out_int ?_
  unfold Cal.secs
  simp (disch := omega) only [wrap_i64]

theorem validB_later (y m d k i s n : Int) (hv : Cal.validB y m d k i s = true) : Cal.validB (Cal.ly y m n) (Cal.lm y m n) (Cal.ld y m d n) k i s = decide (-2000 ≤ Cal.ly y m n ∧ Cal.ly y m n ≤ 6000) := by
  have hv' := of_decide_eq_true hv
  unfold Cal.validP at hv'
  have h1 := Cal.lm_bd y m n
  have h2 := Cal.ld_bd y m d n (by omega)
  rw [Cal.validB, decide_eq_decide, Cal.validP]
  omega

theorem validB_civ (n k i s : Int) (hk : 0 ≤ k ∧ k < 24) (hi : 0 ≤ i ∧ i < 60) (hs : 0 ≤ s ∧ s < 60) : Cal.validB (Cal.cy n) (Cal.cm n) (Cal.cd n) k i s = decide (-2000 ≤ Cal.cy n ∧ Cal.cy n ≤ 6000) := by
  have h := Cal.civ n
  rw [Cal.validB, decide_eq_decide, Cal.validP]
  omega

end Go.Proofs.YtnecdpkmmncfaaaDoor
