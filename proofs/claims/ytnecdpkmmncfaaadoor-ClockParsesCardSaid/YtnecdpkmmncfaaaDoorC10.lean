/-
  Contract of the law's steps.
-/
import Derived.Test.YtnecdpkmmncfaaaDoorC9
namespace Go.Proofs.YtnecdpkmmncfaaaDoor
open Go.AX
set_option maxRecDepth 20000

theorem addDaysV (y m d k i s n : Int) {y' m' d' k' i' s' e : Int} (hA : (if Cal.validB y m d k i s = true ∧ -10000000 ≤ n ∧ n ≤ 10000000 then (if -2000 ≤ Cal.cy (Cal.dn y m d + n) ∧ Cal.cy (Cal.dn y m d + n) ≤ 6000 then de (dt (Cal.cy (Cal.dn y m d + n)) (Cal.cm (Cal.dn y m d + n)) (Cal.cd (Cal.dn y m d + n)) k i s) 0 else de dt0 5) else de dt0 1) = de (dt y' m' d' k' i' s') e) (he : e = 0) :
    (if Cal.validB y' m' d' k' i' s' = true ∧ -10000000 ≤ -n ∧ -n ≤ 10000000 then (if -2000 ≤ Cal.cy (Cal.dn y' m' d' + -n) ∧ Cal.cy (Cal.dn y' m' d' + -n) ≤ 6000 then de (dt (Cal.cy (Cal.dn y' m' d' + -n)) (Cal.cm (Cal.dn y' m' d' + -n)) (Cal.cd (Cal.dn y' m' d' + -n)) k' i' s') 0 else de dt0 5) else de dt0 1) = de (dt y m d k i s) 0
      ∧ -10000000 ≤ n ∧ n ≤ 10000000 := by
  split at hA
  · rename_i hv
    split at hA
    · rename_i hy
      have hv' := of_decide_eq_true hv.1
      unfold Cal.validP at hv'
      have hA' : dt (Cal.cy (Cal.dn y m d + n)) (Cal.cm (Cal.dn y m d + n)) (Cal.cd (Cal.dn y m d + n)) k i s = dt y' m' d' k' i' s' := by
        simp only [de, Value.tuple.injEq] at hA
        have := congrArg Array.toList hA
        simp only [List.cons.injEq] at this
        exact this.1
      simp only [dt, Value.agg.injEq] at hA'
      have ha := congrArg Array.toList hA'
      simp only [List.cons.injEq, Value.int.injEq, true_and, and_true] at ha
      obtain ⟨h1, h2, h3, h4, h5, h6⟩ := ha
      subst h1 h2 h3 h4 h5 h6
      have hc := Cal.civ (Cal.dn y m d + n)
      refine ⟨?_, by omega⟩
      have hd : Cal.dn (Cal.cy (Cal.dn y m d + n)) (Cal.cm (Cal.dn y m d + n)) (Cal.cd (Cal.dn y m d + n)) + -n = Cal.dn y m d := by omega
      have hu := Cal.civ_uniq y m d _ (by omega) (by omega) (by omega) (by omega) rfl
      rw [hd, validB_civ _ _ _ _ (by omega) (by omega) (by omega), if_pos ⟨by simpa using hy, by omega⟩, hu.1, hu.2.1, hu.2.2, if_pos (by omega)]
    · exfalso; subst he; simp [de] at hA
  · exfalso; subst he; simp [de] at hA
theorem brd_false {b : Bool} {A B : Prop} (h : b = false) (hB : B) : brd b A B := by subst h; exact hB
theorem brd_true {b : Bool} {A B : Prop} (h : b = true) (hA : A) : brd b A B := by subst h; exact hA
end Go.Proofs.YtnecdpkmmncfaaaDoor
