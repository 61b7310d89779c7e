/-
  Zones in plain Lean: the gap that local seconds lie in.
-/
import Derived.Test.YtnecdpkmmncfaaaP4
namespace Go.Proofs.Ytnecdpkmmncfaaa
open Go.AX

theorem gap_some {s : Int} : ∀ {k : List (Int × Int)} {o : Int} {i : Nat} {c : Int × Int}, k[i]? = some c → c.1 + lastO o (k.take i) ≤ s ∧ s < c.1 + c.2 → ∃ d ∈ (0, o) :: k, gapV s o k = ansM (s - d.2)
  | [], o, i, c, hc, _ => by simp at hc
  | d :: k, o, 0, c, hc, h => by
    simp only [List.getElem?_cons_zero, Option.some.injEq] at hc
    subst hc
    exact ⟨(0, o), by simp, by rw [gapV, if_pos ⟨h.1, h.2⟩]⟩
  | d :: k, o, i + 1, c, hc, h => by
    by_cases hd : s ≥ d.1 + o ∧ s < d.1 + d.2
    · exact ⟨(0, o), by simp, by rw [gapV, if_pos hd]⟩
    · obtain ⟨x, hx, he⟩ := gap_some (o := d.2) (k := k) (i := i) (c := c) (by simpa using hc) (by simpa [lastO] using h)
      rw [gapV, if_neg hd]
      rcases List.mem_cons.1 hx with rfl | hx
      · exact ⟨d, by simp, he⟩
      · exact ⟨x, by simp [hx], he⟩
theorem ansM_ok {n : Int} (h : -100000000000 ≤ n ∧ n ≤ 100000000000) : ansM n = ie n 0 := by unfold ansM; rw [if_pos h]
/-- The moment that Resolve finds in a gap is local at another date. -/
theorem gap_off {o s : Int} {k : List (Int × Int)} (hz : ZOK o k) (hs : -1000000000 ≤ s ∧ s ≤ 1000000000) {i : Nat} {c : Int × Int} (hc : k[i]? = some c) (h : c.1 + lastO o (k.take i) ≤ s ∧ s < c.1 + c.2) (hm : mom o k s = []) :
    ∃ r, res o k s = ie r 0 ∧ (-2000000000 ≤ r ∧ r ≤ 2000000000) ∧ r + offs o k r ≠ s := by
  obtain ⟨d, hd, hg⟩ := gap_some (o := o) hc h
  obtain ⟨n, hn⟩ := List.getElem?_of_mem hd
  have hb := zall hz hn
  refine ⟨s - d.2, ?_, by omega, fun h1 => ?_⟩
  · unfold res
    rw [hm]
    exact hg.trans (ansM_ok (by omega))
  · have : s - d.2 ∈ mom o k s := (mom_mem o k s _).2 ⟨d, hd, by omega, by omega, rfl⟩
    rw [hm] at this
    cases this
end Go.Proofs.Ytnecdpkmmncfaaa
