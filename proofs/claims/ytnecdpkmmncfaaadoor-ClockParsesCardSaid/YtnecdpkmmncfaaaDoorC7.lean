/-
  Contract of the document's dated.
-/
import Derived.Test.YtnecdpkmmncfaaaDoorC6
namespace Go.Proofs.YtnecdpkmmncfaaaDoor
open Go.AX
set_option maxRecDepth 20000

/-- The two dates that 'dated' keeps: its result, and the date under way. -/
def hDated (y m : Int) : List Ent := [.blk 26 [.v (.int .i64 0), .v (.int .i64 0), .v (.int .i64 0), .v (.int .i64 0), .v (.int .i64 0), .v (.int .i64 0)],
  .blk 26 [.v (.int .i64 y), .v (.int .i64 m), .v (.int .i64 0), .v (.int .i64 0), .v (.int .i64 0), .v (.int .i64 0)]]
theorem rdated_c (N : Int) (hN : -30000000 ≤ N ∧ N ≤ 30000000) :
    ∀ H, SpecH Tryd.prog 39 (pvs [.int .i64 N]) H (Ret (dt (Cal.cy N) (Cal.cm N) (Cal.cd N) 0 0 0) H) := by
  have e1970 : Cal.D 1970 = 0 := by decide
  refine pureC hm Tryd.func39 (by kernel_rfl) rfl rfl ?_
  (conv => whnf)
  refine LoopN.intro Int (fun y => y ≤ 1970 ∧ -100000 ≤ y ∧ (y = 1970 ∨ N < Cal.D (y + 1))) (fun y => mkS 52 0 [(0, .c (.v (.int .i64 (N - Cal.D y)))), (2, .c (.lp 0 0)), (3, .c (.lp 1 0))]) (fun y => hDated y 1) (fun y => (Cal.D y - N).toNat) [] rfl
    (fun _ => rfl) (fun _ => rfl) (fun _ _ => okHB_eq rfl) ⟨1970, by omega, ?_, ?_⟩ ?_
  · (repeat' (first | exact trivial | refine And.intro (by with_reducible rfl) ?_ | (with_reducible exact wkC_refl _) | (with_reducible exact wkCs_refl _) | refine And.intro ?_ ?_))
    exact av_int (by omega)
  · exact And.intro (wkE_refl _) (And.intro (wkE_refl _) trivial)
  intro y hy
  have hD := D_bd y (by omega)
  (conv => whnf)
  refine brd_dec (fun h => ?_) (fun h => ?_)
  · (conv => whnf)
    refine call1 (ryearly_c _ _) ?_
    rw [wrap_i64 (by omega), leap_if, show y - 1 + 1 = y by omega]
    have hD2 := D_bd (y - 1) (by omega)
    have hD3 := Cal.D_succ (y - 1)
    rw [show y - 1 + 1 = y by omega] at hD3
    have hlow : -100000 ≤ y - 1 := by
      have : Cal.D (-99999) < -30000000 := by decide
      rcases hy.2.2 with h1 | h1
      · omega
      · by_cases hc : y - 1 < -100000
        · have := Cal.D_mono (y + 1) (-99999) (by omega); omega
        · omega
    ((conv => whnf); (repeat ((refine VrN.keep ?_); (conv => whnf))))
    refine ⟨y - 1, ⟨by omega, hlow, .inr (by rw [show y - 1 + 1 = y by omega]; omega)⟩, by split at hD3 <;> omega, ?_, ?_⟩
    · (repeat' (first | exact trivial | refine And.intro (by with_reducible rfl) ?_ | (with_reducible exact wkC_refl _) | (with_reducible exact wkCs_refl _) | refine And.intro ?_ ?_))
      exact av_int (by rw [wrap_i64 (by omega)]; omega)
    · exact And.intro (wkE_refl _) (And.intro (wkE_refl _) trivial)
  ((conv => whnf); (repeat ((refine VrN.keep ?_); (conv => whnf))))
  refine LoopN.intro Int (fun z => y ≤ z ∧ z ≤ 100000 ∧ 0 ≤ N - Cal.D z) (fun z => mkS 52 0 [(0, .c (.v (.int .i64 (N - Cal.D z)))), (2, .c (.lp 0 0)), (3, .c (.lp 1 0))]) (fun z => hDated z 1) (fun z => (N - Cal.D z).toNat) [] rfl
    (fun _ => rfl) (fun _ => rfl) (fun _ _ => okHB_eq rfl) ⟨y, by omega, ?_, ?_⟩ ?_
  · (repeat' (first | exact trivial | refine And.intro (by with_reducible rfl) ?_ | (with_reducible exact wkC_refl _) | (with_reducible exact wkCs_refl _) | refine And.intro ?_ ?_))
  · exact And.intro (wkE_refl _) (And.intro (wkE_refl _) trivial)
  intro z hz
  have hDz := D_bd z (by omega)
  have hDz1 := D_bd (z + 1) (by omega)
  have hDs := Cal.D_succ z
  (conv => whnf)
  refine call1 (ryearly_c _ _) ?_
  rw [leap_if]
  (conv => whnf)
  refine brd_dec (fun h' => ?_) (fun h' => ?_)
  · (conv => whnf)
    refine call1 (ryearly_c _ _) ?_
    rw [leap_if]
    have hup : z + 1 ≤ 100000 := by
      have : Cal.D 99999 > 30000000 := by decide
      by_cases hc : z + 1 > 100000
      · have := Cal.D_mono 99999 (z + 1) (by omega); omega
      · omega
    ((conv => whnf); (repeat ((refine VrN.keep ?_); (conv => whnf))))
    refine ⟨z + 1, by omega, by split at hDs <;> omega, ?_, ?_⟩
    · (repeat' (first | exact trivial | refine And.intro (by with_reducible rfl) ?_ | (with_reducible exact wkC_refl _) | (with_reducible exact wkCs_refl _) | refine And.intro ?_ ?_))
      exact av_int (by rw [wrap_i64 (by omega)]; omega)
    · refine And.intro (wkE_refl _) (And.intro (And.intro rfl (And.intro (wkC_int ?_) (wkCs_refl _))) trivial)
      rw [wrap_i64 (by omega)]
  ((conv => whnf); (repeat ((refine VrN.keep ?_); (conv => whnf))))
  refine LoopN.intro Int (fun q => 1 ≤ q ∧ q ≤ 12 ∧ 0 ≤ N - Cal.D z - Cal.cum z q) (fun q => mkS 52 0 [(0, .c (.v (.int .i64 (N - Cal.D z - Cal.cum z q)))), (2, .c (.lp 0 0)), (3, .c (.lp 1 0))]) (fun q => hDated z q) (fun q => (12 - q).toNat) [] rfl
    (fun _ => rfl) (fun _ => rfl) (fun _ _ => okHB_eq rfl) ⟨1, ⟨by omega, by omega, by rw [show Cal.cum z 1 = 0 from rfl]; omega⟩, ?_, ?_⟩ ?_
  · (repeat' (first | exact trivial | refine And.intro (by with_reducible rfl) ?_ | (with_reducible exact wkC_refl _) | (with_reducible exact wkCs_refl _) | refine And.intro ?_ ?_))
    exact av_int (by rw [show Cal.cum z 1 = 0 from rfl]; omega)
  · exact And.intro (wkE_refl _) (And.intro (wkE_refl _) trivial)
  intro q hq
  have hs := Cal.cum_succ z q (by omega) (by omega)
  have hp := Cal.mlen_pos z q
  have h13 := Cal.cum_13 z
  rw [leap_if] at h13
  have hc : 0 ≤ Cal.cum z q := by
    have a := Cal.cum_le z 1 q (by omega) (by omega) (by omega)
    have c : Cal.cum z 1 = 0 := rfl
    omega
  (conv => whnf)
  refine call1 (rlong_c z q (by omega) (by omega) _) ?_
  (conv => whnf)
  refine brd_dec (fun h'' => ?_) (fun h'' => ?_)
  · (conv => whnf)
    refine call1 (rlong_c z q (by omega) (by omega) _) ?_
    have hq12 : q ≠ 12 := by
      intro e; subst e
      rw [show (12 : Int) + 1 = 13 from rfl] at hs
      omega
    ((conv => whnf); (repeat ((refine VrN.keep ?_); (conv => whnf))))
    refine ⟨q + 1, by omega, by omega, ?_, ?_⟩
    · (repeat' (first | exact trivial | refine And.intro (by with_reducible rfl) ?_ | (with_reducible exact wkC_refl _) | (with_reducible exact wkCs_refl _) | refine And.intro ?_ ?_))
      exact av_int (by rw [wrap_i64 (by omega)]; omega)
    · refine And.intro (wkE_refl _) (And.intro (And.intro rfl (And.intro (wkC_refl _) (And.intro (wkC_int ?_) (wkCs_refl _)))) trivial)
      rw [wrap_i64 (by omega)]
  obtain ⟨e1, e2, e3⟩ := Cal.civ_uniq z q (N - Cal.D z - Cal.cum z q + 1) N (by omega) (by omega) (by omega) (by omega) (by unfold Cal.dn; omega)
  ((conv => whnf); (repeat ((refine VrN.keep ?_); (conv => whnf))))
  refine out_dt e1.symm e2.symm ?_ rfl rfl rfl
  rw [wrap_i64 (by omega)]; omega
end Go.Proofs.YtnecdpkmmncfaaaDoor
