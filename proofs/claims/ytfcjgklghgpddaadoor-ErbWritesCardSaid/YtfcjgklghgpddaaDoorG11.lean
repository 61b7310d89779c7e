/-
  Contracts: Plain; same; the chapter's example.
-/
import Derived.Test.YtfcjgklghgpddaaDoorG10
namespace Go.Proofs.YtfcjgklghgpddaaDoor
open Go.AX Go.RowKit Go.Erb
set_option maxRecDepth 20000

theorem partsC_get (l : List Part) (i j : Nat) (hj : j < 3) {p : Part} (hp : l[i]? = some p) : (partsC l)[i * 3 + j]? = (partC p)[j]? := by
  unfold partsC
  rw [flat_get (g := partC) (m := 3) (fun _ => rfl) l i j hj, hp]
  rfl
theorem plainFn_c (p : Part) : ∀ H, SpecH Tryd.prog 16 (pvs [.agg (partC p).toArray]) H (Ret (.bool (p.kind != 0)) H) := by
  refine pureC hm Tryd.func16 (by kernel_rfl) rfl rfl ?_
  ((conv => whnf); (repeat ((first | refine VrN.norm (wrap_i64 (by omega)) ?_ | refine VrN.keep ?_ | refine DrawN.calm (by decide +kernel) ?_ | refine Nd.mk (by decide +kernel) ?_ | refine Nd.mk (by omega) ?_ | (refine Nd.mk ?_ ?_; focus ((repeat' (first | exact trivial | exact wkE_refl _ | refine And.intro ?_ ?_)); done)) | refine RdN.intro _ rfl (by rfl) ?_); (conv => whnf))))
def anyC (l : List Part) : Bool := l.any fun p => p.kind != 0
theorem IndexFunc_c (a : Option Addr) (cap : Nat) (l : List Part) (hl : l.length ≤ 1000000) (ha : a = none → l = []) : ∀ H, (∀ w, Facts H w → SlAt a (l.length * 3) (partsC l) w) →
    SpecH Tryd.prog 28 (pvs [.slice a l.length cap, .func (.func 16) #[] #[]]) H (RetR (fun r => ∃ i : Int, r = .int .i64 i ∧ decide (i ≥ 0) = anyC l) H) := by
  refine factR hm Tryd.func28 (by kernel_rfl) rfl rfl ?_
  ((conv => whnf); (repeat ((first | refine VrN.norm (wrap_i64 (by omega)) ?_ | refine VrN.keep ?_ | refine DrawN.calm (by decide +kernel) ?_ | refine Nd.mk (by decide +kernel) ?_ | refine Nd.mk (by omega) ?_ | (refine Nd.mk ?_ ?_; focus ((repeat' (first | exact trivial | exact wkE_refl _ | refine And.intro ?_ ?_)); done)) | refine RdN.intro _ rfl (by rfl) ?_); (conv => whnf))))
  refine loopS Nat (fun i => i ≤ l.length ∧ anyC (l.drop i) = anyC l) (fun i => mkS Tryd.f28.ntmps 0 [(0, .c (.v (.slice a l.length cap))), (1, .c (.v (.func (.func 16) #[] #[]))), (7, .c (.v (.int .i64 (l.length : Int)))), (8, .c (.v (.int .i64 (i : Int))))]) (fun i => l.length - i) rfl (fun _ => rfl) 0 ⟨by omega, rfl⟩ ?_ fun i ⟨hi, he⟩ => ?_
  · (repeat' (first | exact trivial | refine And.intro (by with_reducible rfl) ?_ | (with_reducible exact wkC_refl _) | (with_reducible exact wkCs_refl _) | refine And.intro ?_ ?_))
    all_goals rfl
  ((conv => whnf); (repeat ((first | refine VrN.norm (wrap_i64 (by omega)) ?_ | refine VrN.keep ?_ | refine DrawN.calm (by decide +kernel) ?_ | refine Nd.mk (by decide +kernel) ?_ | refine Nd.mk (by omega) ?_ | (refine Nd.mk ?_ ?_; focus ((repeat' (first | exact trivial | exact wkE_refl _ | refine And.intro ?_ ?_)); done)) | refine RdN.intro _ rfl (by rfl) ?_); (conv => whnf))))
  refine brd_dec (fun h1 => ?_) (fun h1 => ?_)
  · have hp : ∃ p, l[i]? = some p := ⟨_, List.getElem?_eq_getElem (by omega)⟩
    obtain ⟨p, hp⟩ := hp
    have hd : l.drop i = p :: l.drop (i + 1) := by
      obtain ⟨h, rfl⟩ := List.getElem?_eq_some_iff.1 hp
      exact List.drop_eq_getElem_cons h
    rw [hd] at he
    have hsome : a.isSome = true := by
      cases a with
      | none => rw [ha rfl] at hp; cases hp
      | some _ => rfl
    ((conv => whnf); (repeat ((first | refine VrN.norm (wrap_i64 (by omega)) ?_ | refine VrN.keep ?_ | refine DrawN.calm (by decide +kernel) ?_ | refine Nd.mk (by decide +kernel) ?_ | refine Nd.mk (by omega) ?_ | (refine Nd.mk ?_ ?_; focus ((repeat' (first | exact trivial | exact wkE_refl _ | refine And.intro ?_ ?_)); done)) | refine RdN.intro _ rfl (by rfl) ?_); (conv => whnf))))
    refine Nd.mk ⟨hsome, by omega, by omega⟩ ?_
    ((conv => whnf); (repeat ((first | refine VrN.norm (wrap_i64 (by omega)) ?_ | refine VrN.keep ?_ | refine DrawN.calm (by decide +kernel) ?_ | refine Nd.mk (by decide +kernel) ?_ | refine Nd.mk (by omega) ?_ | (refine Nd.mk ?_ ?_; focus ((repeat' (first | exact trivial | exact wkE_refl _ | refine And.intro ?_ ?_)); done)) | refine RdN.intro _ rfl (by rfl) ?_); (conv => whnf))))
    refine LdN.agg (n := 3) (partC p) rfl (fun w hw => hw.1) rfl (fun j hj => ?_) ?_
    · show (partsC l)[Int.toNat (i : Int) * 3 + j]? = _
      rw [Int.toNat_natCast]
      exact partsC_get l i j hj hp
    ((conv => whnf); (repeat ((first | refine VrN.norm (wrap_i64 (by omega)) ?_ | refine VrN.keep ?_ | refine DrawN.calm (by decide +kernel) ?_ | refine Nd.mk (by decide +kernel) ?_ | refine Nd.mk (by omega) ?_ | (refine Nd.mk ?_ ?_; focus ((repeat' (first | exact trivial | exact wkE_refl _ | refine And.intro ?_ ?_)); done)) | refine RdN.intro _ rfl (by rfl) ?_); (conv => whnf)))); refine call1 (plainFn_c p _) ?_
    ((conv => whnf); (repeat ((first | refine VrN.norm (wrap_i64 (by omega)) ?_ | refine VrN.keep ?_ | refine DrawN.calm (by decide +kernel) ?_ | refine Nd.mk (by decide +kernel) ?_ | refine Nd.mk (by omega) ?_ | (refine Nd.mk ?_ ?_; focus ((repeat' (first | exact trivial | exact wkE_refl _ | refine And.intro ?_ ?_)); done)) | refine RdN.intro _ rfl (by rfl) ?_); (conv => whnf))))
    refine brd_intro (fun h2 => ?_) (fun h2 => ?_)
    · ((conv => whnf); (repeat ((first | refine VrN.norm (wrap_i64 (by omega)) ?_ | refine VrN.keep ?_ | refine DrawN.calm (by decide +kernel) ?_ | refine Nd.mk (by decide +kernel) ?_ | refine Nd.mk (by omega) ?_ | (refine Nd.mk ?_ ?_; focus ((repeat' (first | exact trivial | exact wkE_refl _ | refine And.intro ?_ ?_)); done)) | refine RdN.intro _ rfl (by rfl) ?_); (conv => whnf))))
      refine ⟨_, rfl, i, rfl, ?_⟩
      rw [← he, anyC, List.any_cons, h2]
      simp
    · ((conv => whnf); (repeat ((first | refine VrN.norm (wrap_i64 (by omega)) ?_ | refine VrN.keep ?_ | refine DrawN.calm (by decide +kernel) ?_ | refine Nd.mk (by decide +kernel) ?_ | refine Nd.mk (by omega) ?_ | (refine Nd.mk ?_ ?_; focus ((repeat' (first | exact trivial | exact wkE_refl _ | refine And.intro ?_ ?_)); done)) | refine RdN.intro _ rfl (by rfl) ?_); (conv => whnf))))
      refine ⟨i + 1, ⟨by omega, by rw [← he, anyC, anyC, List.any_cons, h2]; simp⟩, by omega, ?_, by (repeat' (first | exact trivial | exact wkE_refl _ | refine And.intro ?_ ?_))⟩
      (repeat' (first | exact trivial | refine And.intro (by with_reducible rfl) ?_ | (with_reducible exact wkC_refl _) | (with_reducible exact wkCs_refl _) | refine And.intro ?_ ?_))
      exact av_int (by rw [wrap_i64 (by omega)]; omega)
  · ((conv => whnf); (repeat ((first | refine VrN.norm (wrap_i64 (by omega)) ?_ | refine VrN.keep ?_ | refine DrawN.calm (by decide +kernel) ?_ | refine Nd.mk (by decide +kernel) ?_ | refine Nd.mk (by omega) ?_ | (refine Nd.mk ?_ ?_; focus ((repeat' (first | exact trivial | exact wkE_refl _ | refine And.intro ?_ ?_)); done)) | refine RdN.intro _ rfl (by rfl) ?_); (conv => whnf))))
    refine ⟨_, rfl, -1, rfl, ?_⟩
    have : i = l.length := by omega
    subst this
    rw [← he, List.drop_length]
    rfl
theorem ContainsFunc_c (a : Option Addr) (cap : Nat) (l : List Part) (hl : l.length ≤ 1000000) (ha : a = none → l = []) : ∀ H, (∀ w, Facts H w → SlAt a (l.length * 3) (partsC l) w) →
    SpecH Tryd.prog 15 (pvs [.slice a l.length cap, .func (.func 16) #[] #[]]) H (Ret (.bool (anyC l)) H) := by
  refine factC hm Tryd.func15 (by kernel_rfl) rfl rfl ?_
  ((conv => whnf); (repeat ((first | refine VrN.norm (wrap_i64 (by omega)) ?_ | refine VrN.keep ?_ | refine DrawN.calm (by decide +kernel) ?_ | refine Nd.mk (by decide +kernel) ?_ | refine Nd.mk (by omega) ?_ | (refine Nd.mk ?_ ?_; focus ((repeat' (first | exact trivial | exact wkE_refl _ | refine And.intro ?_ ?_)); done)) | refine RdN.intro _ rfl (by rfl) ?_); (conv => whnf))))
  refine callR (IndexFunc_c a cap l hl ha _ fun w hw => hw.1) fun x hx => ?_
  obtain ⟨i, rfl, hi⟩ := hx
  rw [← hi]
  ((conv => whnf); (repeat ((first | refine VrN.norm (wrap_i64 (by omega)) ?_ | refine VrN.keep ?_ | refine DrawN.calm (by decide +kernel) ?_ | refine Nd.mk (by decide +kernel) ?_ | refine Nd.mk (by omega) ?_ | (refine Nd.mk ?_ ?_; focus ((repeat' (first | exact trivial | exact wkE_refl _ | refine And.intro ?_ ?_)); done)) | refine RdN.intro _ rfl (by rfl) ?_); (conv => whnf))))
theorem rd_len (lines : Bool) : ∀ (n : Nat) (pre r t fp : List UInt8) (out l : List Part), r.length ≤ n → rdN lines pre r t fp out = .ok l → l.length ≤ out.length + (if t.isEmpty then 0 else 1) + 2 * r.length
  | _, pre, [], t, fp, out, l, _, h => by
    rw [rdN_nil] at h
    cases h
    unfold close
    split <;> simp_all
  | 0, _, _ :: _, _, _, _, _, h, _ => by simp at h
  | n + 1, pre, c :: r, t, fp, out, l, hn, h => by
    have hle1 : ∀ x : List UInt8, (if x.isEmpty then 0 else 1) ≤ 1 := fun x => by split <;> omega
    have hcl : ∀ (t fp : List UInt8), (close t fp out).length ≤ out.length + 1 := fun t fp => by unfold close; split <;> simp
    simp only [List.length_cons] at hn
    rw [rdN_cons] at h
    split at h
    · have := rd_len lines n _ _ _ _ _ _ (by simp; omega) h
      have h1 := hle1 (t ++ [37])
      rename_i hc
      simp only [Bool.and_eq_true] at hc
      obtain ⟨q, hq⟩ := pfx_split hc.2
      have hql := congrArg List.length hq
      simp at hql
      simp only [List.length_drop, List.length_cons] at this ⊢
      omega
    split at h
    · have := rd_len lines n _ _ _ _ _ _ (by simp; omega) h
      have h1 := hcl t fp
      simp only [List.length_drop, List.length_cons, List.length_append, List.isEmpty_nil, if_true, List.length_nil] at this ⊢
      omega
    split at h
    · have := rd_len lines n _ _ _ _ _ _ (by simp; omega) h
      have h1 := hle1 (t ++ [60, 37])
      rename_i hc
      obtain ⟨q, hq⟩ := pfx_split hc
      have hql := congrArg List.length hq
      simp at hql
      simp only [List.length_drop, List.length_cons] at this ⊢
      omega
    split at h
    · rename_i hc
      obtain ⟨q, hq⟩ := pfx_split hc
      have hql := congrArg List.length hq
      simp at hql
      cases hX : tgN (pre ++ (c :: r).take (2 + (opn ((c :: r).drop 2)).2.2)) ((c :: r).drop (2 + (opn ((c :: r).drop 2)).2.2)) [] with
      | none => rw [hX] at h; cases h
      | some x =>
        obtain ⟨p', r', code⟩ := x
        rw [hX] at h
        have hlt := (tg_out _ _ _ _ _ _ _ hX).1
        simp only [List.length_drop, List.length_cons] at hlt
        have := rd_len lines n _ _ _ _ _ _ (by omega) h
        have h1 := hcl (if (opn ((c :: r).drop 2)).2.1 then trim t fp else t) fp
        simp only [List.length_append, List.isEmpty_nil, if_true, List.length_cons, List.length_nil] at this ⊢
        omega
    · have := rd_len lines n _ _ _ _ _ _ (by omega) h
      have h1 := hle1 (t ++ [c])
      simp only [List.length_cons] at this ⊢
      omega
theorem parts_len (s : List UInt8) (lines : Bool) : (parts s lines).1.length ≤ 100000 := by
  by_cases hs : s.length ≤ 50000
  · rw [parts_ok s lines hs]
    cases hR : rdN lines [] s [] [] [] with
    | ok l =>
      have := rd_len lines _ _ _ _ _ _ _ (Nat.le_refl _) hR
      simp at this
      show l.length ≤ _
      omega
    | error n => simp
  · unfold parts
    rw [if_pos (by omega)]
    simp
/-- Are there only texts? -/
def plainP (s : List UInt8) (lines : Bool) : Bool × Int := if (parts s lines).2.2 = 0 then (!anyC (parts s lines).1, 0) else (false, (parts s lines).2.2)
theorem Plain_c (s : List UInt8) (lines : Bool) (hs : s.length ≤ 1000000000000) : ∀ H, (∀ w, Facts H w → MaxF w) → SpecH Tryd.prog 9 (pvs [.string (bs s), .bool lines]) H (Ret (.tuple #[.bool (plainP s lines).1, .int .i64 (plainP s lines).2]) H) := by
  refine factC hm Tryd.func9 (by kernel_rfl) rfl rfl ?_
  have hlen := parts_len s lines
  unfold plainP
  ((conv => whnf); (repeat ((first | refine VrN.norm (wrap_i64 (by omega)) ?_ | refine VrN.keep ?_ | refine DrawN.calm (by decide +kernel) ?_ | refine Nd.mk (by decide +kernel) ?_ | refine Nd.mk (by omega) ?_ | (refine Nd.mk ?_ ?_; focus ((repeat' (first | exact trivial | exact wkE_refl _ | refine And.intro ?_ ?_)); done)) | refine RdN.intro _ rfl (by rfl) ?_); (conv => whnf))))
  refine SpecF.call (Parts_c s lines hs) (fun w hw => hw.1) fun v G hR => ?_
  obtain ⟨ob, cap, rfl, hn, hG⟩ := hR
  ((conv => whnf); (repeat ((first | refine VrN.norm (wrap_i64 (by omega)) ?_ | refine VrN.keep ?_ | refine DrawN.calm (by decide +kernel) ?_ | refine Nd.mk (by decide +kernel) ?_ | refine Nd.mk (by omega) ?_ | (refine Nd.mk ?_ ?_; focus ((repeat' (first | exact trivial | exact wkE_refl _ | refine And.intro ?_ ?_)); done)) | refine RdN.intro _ rfl (by rfl) ?_); (conv => whnf))))
  refine brd_ne (fun h => ?_) (fun h => ?_)
  · rw [if_neg h]
    ((conv => whnf); (repeat ((first | refine VrN.norm (wrap_i64 (by omega)) ?_ | refine VrN.keep ?_ | refine DrawN.calm (by decide +kernel) ?_ | refine Nd.mk (by decide +kernel) ?_ | refine Nd.mk (by omega) ?_ | (refine Nd.mk ?_ ?_; focus ((repeat' (first | exact trivial | exact wkE_refl _ | refine And.intro ?_ ?_)); done)) | refine RdN.intro _ rfl (by rfl) ?_); (conv => whnf))))
  · rw [if_pos h]
    ((conv => whnf); (repeat ((first | refine VrN.norm (wrap_i64 (by omega)) ?_ | refine VrN.keep ?_ | refine DrawN.calm (by decide +kernel) ?_ | refine Nd.mk (by decide +kernel) ?_ | refine Nd.mk (by omega) ?_ | (refine Nd.mk ?_ ?_; focus ((repeat' (first | exact trivial | exact wkE_refl _ | refine And.intro ?_ ?_)); done)) | refine RdN.intro _ rfl (by rfl) ?_); (conv => whnf))))
    refine call1 (ContainsFunc_c (at0 ob) cap (parts s lines).1 (by omega) (fun h => hn (by cases ob <;> simp_all [at0])) _ fun w hw => hG w hw.2.1) ?_
    ((conv => whnf); (repeat ((first | refine VrN.norm (wrap_i64 (by omega)) ?_ | refine VrN.keep ?_ | refine DrawN.calm (by decide +kernel) ?_ | refine Nd.mk (by decide +kernel) ?_ | refine Nd.mk (by omega) ?_ | (refine Nd.mk ?_ ?_; focus ((repeat' (first | exact trivial | exact wkE_refl _ | refine And.intro ?_ ?_)); done)) | refine RdN.intro _ rfl (by rfl) ?_); (conv => whnf))))
end Go.Proofs.YtfcjgklghgpddaaDoor
