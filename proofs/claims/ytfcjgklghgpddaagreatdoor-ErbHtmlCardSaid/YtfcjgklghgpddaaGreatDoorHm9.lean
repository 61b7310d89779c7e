/-
  ErbHtmlCardSaid is proved: of every two strings ErbHtml returns true and leaves its arguments as they were; the listed tables are tied to the program's text.
-/
import Derived.Lib.SplitLaws
import Derived.Test.YtfcjgklghgpddaaGreatDoorCards
import Derived.Test.YtfcjgklghgpddaaGreatDoorTie
import Derived.Lay
import Derived.Test.YtfcjgklghgpddaaGreatDoorHm8
/-
  Contracts: Plain; same; the chapter's example.
-/
namespace Go.Proofs.YtfcjgklghgpddaaGreatDoor
open Go.AX Go.RowKit Go.Erb
set_option maxRecDepth 20000

theorem partsC_get (l : List Part) (i j : Nat) (hj : j < 3) {p : Part} (hp : l[i]? = some p) : (partsC l)[i * 3 + j]? = (partC p)[j]? := by
  unfold partsC
  rw [flat_get (g := partC) (m := 3) (fun _ => rfl) l i j hj, hp]
  rfl
theorem plainFn_c (p : Part) : ∀ H, SpecH Tryz.prog 17 (pvs [.agg (partC p).toArray]) H (Ret (.bool (p.kind != 0)) H) := by
  refine pureC hm Tryz.func17 (by kernel_rfl) rfl rfl ?_
  ((conv => whnf); (repeat ((first | refine BoxN.own ?_ | refine VrN.norm (wrap_i64 (by omega)) ?_ | refine VrN.keep ?_ | refine DrawN.calm (by decide +kernel) ?_ | refine Nd.mk (by decide +kernel) ?_ | refine Nd.mk (by omega) ?_ | (refine Nd.mk ?_ ?_; focus ((repeat' (first | exact trivial | exact wkE_refl _ | refine And.intro ?_ ?_)); done)) | refine RdN.intro _ rfl (by rfl) ?_); (conv => whnf))))
def anyC (l : List Part) : Bool := l.any fun p => p.kind != 0
theorem IndexFunc_c (a : Option Addr) (cap : Nat) (l : List Part) (hl : l.length ≤ 1000000) (ha : a = none → l = []) : ∀ H, (∀ w, Facts H w → SlAt a (l.length * 3) (partsC l) w) →
    SpecH Tryz.prog 34 (pvs [.slice a l.length cap, .func (.func 17) #[] #[]]) H (RetR (fun r => ∃ i : Int, r = .int .i64 i ∧ decide (i ≥ 0) = anyC l) H) := by
  refine factR hm Tryz.func34 (by kernel_rfl) rfl rfl ?_
  ((conv => whnf); (repeat ((first | refine BoxN.own ?_ | refine VrN.norm (wrap_i64 (by omega)) ?_ | refine VrN.keep ?_ | refine DrawN.calm (by decide +kernel) ?_ | refine Nd.mk (by decide +kernel) ?_ | refine Nd.mk (by omega) ?_ | (refine Nd.mk ?_ ?_; focus ((repeat' (first | exact trivial | exact wkE_refl _ | refine And.intro ?_ ?_)); done)) | refine RdN.intro _ rfl (by rfl) ?_); (conv => whnf))))
  refine loopS Nat (fun i => i ≤ l.length ∧ anyC (l.drop i) = anyC l) (fun i => mkS Tryz.f34.ntmps 0 [(0, .c (.v (.slice a l.length cap))), (1, .c (.v (.func (.func 17) #[] #[]))), (7, .c (.v (.int .i64 (l.length : Int)))), (8, .c (.v (.int .i64 (i : Int))))]) (fun i => l.length - i) rfl (fun _ => rfl) 0 ⟨by omega, rfl⟩ ?_ fun i ⟨hi, he⟩ => ?_
  · (repeat' (first | exact trivial | refine And.intro (by with_reducible rfl) ?_ | (with_reducible exact wkC_refl _) | (with_reducible exact wkCs_refl _) | refine And.intro ?_ ?_))
    all_goals rfl
  ((conv => whnf); (repeat ((first | refine BoxN.own ?_ | refine VrN.norm (wrap_i64 (by omega)) ?_ | refine VrN.keep ?_ | refine DrawN.calm (by decide +kernel) ?_ | refine Nd.mk (by decide +kernel) ?_ | refine Nd.mk (by omega) ?_ | (refine Nd.mk ?_ ?_; focus ((repeat' (first | exact trivial | exact wkE_refl _ | refine And.intro ?_ ?_)); done)) | refine RdN.intro _ rfl (by rfl) ?_); (conv => whnf))))
  refine brd_dec (fun h1 => ?_) (fun h1 => ?_)
  · have hp : ∃ p, l[i]? = some p := ⟨_, List.getElem?_eq_getElem (by omega)⟩
    obtain ⟨p, hp⟩ := hp
    have hd : l.drop i = p :: l.drop (i + 1) := by
      obtain ⟨h, rfl⟩ := List.getElem?_eq_some_iff.1 hp
      exact List.drop_eq_getElem_cons h
    rw [hd] at he
    have hsome : a.isSome = true := by
      cases a with
      | none => rw [ha rfl] at hp; cases hp
      | some _ => rfl
    ((conv => whnf); (repeat ((first | refine BoxN.own ?_ | refine VrN.norm (wrap_i64 (by omega)) ?_ | refine VrN.keep ?_ | refine DrawN.calm (by decide +kernel) ?_ | refine Nd.mk (by decide +kernel) ?_ | refine Nd.mk (by omega) ?_ | (refine Nd.mk ?_ ?_; focus ((repeat' (first | exact trivial | exact wkE_refl _ | refine And.intro ?_ ?_)); done)) | refine RdN.intro _ rfl (by rfl) ?_); (conv => whnf))))
    refine Nd.mk ⟨hsome, by omega, by omega⟩ ?_
    ((conv => whnf); (repeat ((first | refine BoxN.own ?_ | refine VrN.norm (wrap_i64 (by omega)) ?_ | refine VrN.keep ?_ | refine DrawN.calm (by decide +kernel) ?_ | refine Nd.mk (by decide +kernel) ?_ | refine Nd.mk (by omega) ?_ | (refine Nd.mk ?_ ?_; focus ((repeat' (first | exact trivial | exact wkE_refl _ | refine And.intro ?_ ?_)); done)) | refine RdN.intro _ rfl (by rfl) ?_); (conv => whnf))))
    refine LdN.agg (n := 3) (partC p) rfl (fun w hw => hw.1) rfl (fun j hj => ?_) ?_
    · show (partsC l)[Int.toNat (i : Int) * 3 + j]? = _
      rw [Int.toNat_natCast]
      exact partsC_get l i j hj hp
    ((conv => whnf); (repeat ((first | refine BoxN.own ?_ | refine VrN.norm (wrap_i64 (by omega)) ?_ | refine VrN.keep ?_ | refine DrawN.calm (by decide +kernel) ?_ | refine Nd.mk (by decide +kernel) ?_ | refine Nd.mk (by omega) ?_ | (refine Nd.mk ?_ ?_; focus ((repeat' (first | exact trivial | exact wkE_refl _ | refine And.intro ?_ ?_)); done)) | refine RdN.intro _ rfl (by rfl) ?_); (conv => whnf)))); refine call1 (plainFn_c p _) ?_
    ((conv => whnf); (repeat ((first | refine BoxN.own ?_ | refine VrN.norm (wrap_i64 (by omega)) ?_ | refine VrN.keep ?_ | refine DrawN.calm (by decide +kernel) ?_ | refine Nd.mk (by decide +kernel) ?_ | refine Nd.mk (by omega) ?_ | (refine Nd.mk ?_ ?_; focus ((repeat' (first | exact trivial | exact wkE_refl _ | refine And.intro ?_ ?_)); done)) | refine RdN.intro _ rfl (by rfl) ?_); (conv => whnf))))
    refine brd_intro (fun h2 => ?_) (fun h2 => ?_)
    · ((conv => whnf); (repeat ((first | refine BoxN.own ?_ | refine VrN.norm (wrap_i64 (by omega)) ?_ | refine VrN.keep ?_ | refine DrawN.calm (by decide +kernel) ?_ | refine Nd.mk (by decide +kernel) ?_ | refine Nd.mk (by omega) ?_ | (refine Nd.mk ?_ ?_; focus ((repeat' (first | exact trivial | exact wkE_refl _ | refine And.intro ?_ ?_)); done)) | refine RdN.intro _ rfl (by rfl) ?_); (conv => whnf))))
      refine ⟨_, rfl, i, rfl, ?_⟩
      rw [← he, anyC, List.any_cons, h2]
      simp
    · ((conv => whnf); (repeat ((first | refine BoxN.own ?_ | refine VrN.norm (wrap_i64 (by omega)) ?_ | refine VrN.keep ?_ | refine DrawN.calm (by decide +kernel) ?_ | refine Nd.mk (by decide +kernel) ?_ | refine Nd.mk (by omega) ?_ | (refine Nd.mk ?_ ?_; focus ((repeat' (first | exact trivial | exact wkE_refl _ | refine And.intro ?_ ?_)); done)) | refine RdN.intro _ rfl (by rfl) ?_); (conv => whnf))))
      refine ⟨i + 1, ⟨by omega, by rw [← he, anyC, anyC, List.any_cons, h2]; simp⟩, by omega, ?_, by (repeat' (first | exact trivial | exact wkE_refl _ | refine And.intro ?_ ?_))⟩
      (repeat' (first | exact trivial | refine And.intro (by with_reducible rfl) ?_ | (with_reducible exact wkC_refl _) | (with_reducible exact wkCs_refl _) | refine And.intro ?_ ?_))
      exact av_int (by rw [wrap_i64 (by omega)]; omega)
  · ((conv => whnf); (repeat ((first | refine BoxN.own ?_ | refine VrN.norm (wrap_i64 (by omega)) ?_ | refine VrN.keep ?_ | refine DrawN.calm (by decide +kernel) ?_ | refine Nd.mk (by decide +kernel) ?_ | refine Nd.mk (by omega) ?_ | (refine Nd.mk ?_ ?_; focus ((repeat' (first | exact trivial | exact wkE_refl _ | refine And.intro ?_ ?_)); done)) | refine RdN.intro _ rfl (by rfl) ?_); (conv => whnf))))
    refine ⟨_, rfl, -1, rfl, ?_⟩
    have : i = l.length := by omega
    subst this
    rw [← he, List.drop_length]
    rfl
theorem ContainsFunc_c (a : Option Addr) (cap : Nat) (l : List Part) (hl : l.length ≤ 1000000) (ha : a = none → l = []) : ∀ H, (∀ w, Facts H w → SlAt a (l.length * 3) (partsC l) w) →
    SpecH Tryz.prog 16 (pvs [.slice a l.length cap, .func (.func 17) #[] #[]]) H (Ret (.bool (anyC l)) H) := by
  refine factC hm Tryz.func16 (by kernel_rfl) rfl rfl ?_
  ((conv => whnf); (repeat ((first | refine BoxN.own ?_ | refine VrN.norm (wrap_i64 (by omega)) ?_ | refine VrN.keep ?_ | refine DrawN.calm (by decide +kernel) ?_ | refine Nd.mk (by decide +kernel) ?_ | refine Nd.mk (by omega) ?_ | (refine Nd.mk ?_ ?_; focus ((repeat' (first | exact trivial | exact wkE_refl _ | refine And.intro ?_ ?_)); done)) | refine RdN.intro _ rfl (by rfl) ?_); (conv => whnf))))
  refine callR (IndexFunc_c a cap l hl ha _ fun w hw => hw.1) fun x hx => ?_
  obtain ⟨i, rfl, hi⟩ := hx
  rw [← hi]
  ((conv => whnf); (repeat ((first | refine BoxN.own ?_ | refine VrN.norm (wrap_i64 (by omega)) ?_ | refine VrN.keep ?_ | refine DrawN.calm (by decide +kernel) ?_ | refine Nd.mk (by decide +kernel) ?_ | refine Nd.mk (by omega) ?_ | (refine Nd.mk ?_ ?_; focus ((repeat' (first | exact trivial | exact wkE_refl _ | refine And.intro ?_ ?_)); done)) | refine RdN.intro _ rfl (by rfl) ?_); (conv => whnf))))
theorem rd_len (lines : Bool) : ∀ (n : Nat) (pre r t fp : List UInt8) (out l : List Part), r.length ≤ n → rdN lines pre r t fp out = .ok l → l.length ≤ out.length + (if t.isEmpty then 0 else 1) + 2 * r.length
  | _, pre, [], t, fp, out, l, _, h => by
    rw [rdN_nil] at h
    cases h
    unfold close
    split <;> simp_all
  | 0, _, _ :: _, _, _, _, _, h, _ => by simp at h
  | n + 1, pre, c :: r, t, fp, out, l, hn, h => by
    have hle1 : ∀ x : List UInt8, (if x.isEmpty then 0 else 1) ≤ 1 := fun x => by split <;> omega
    have hcl : ∀ (t fp : List UInt8), (close t fp out).length ≤ out.length + 1 := fun t fp => by unfold close; split <;> simp
    simp only [List.length_cons] at hn
    rw [rdN_cons] at h
    split at h
    · have := rd_len lines n _ _ _ _ _ _ (by simp; omega) h
      have h1 := hle1 (t ++ [37])
      rename_i hc
      simp only [Bool.and_eq_true] at hc
      obtain ⟨q, hq⟩ := pfx_split hc.2
      have hql := congrArg List.length hq
      simp at hql
      simp only [List.length_drop, List.length_cons] at this ⊢
      omega
    split at h
    · have := rd_len lines n _ _ _ _ _ _ (by simp; omega) h
      have h1 := hcl t fp
      simp only [List.length_drop, List.length_cons, List.length_append, List.isEmpty_nil, if_true, List.length_nil] at this ⊢
      omega
    split at h
    · have := rd_len lines n _ _ _ _ _ _ (by simp; omega) h
      have h1 := hle1 (t ++ [60, 37])
      rename_i hc
      obtain ⟨q, hq⟩ := pfx_split hc
      have hql := congrArg List.length hq
      simp at hql
      simp only [List.length_drop, List.length_cons] at this ⊢
      omega
    split at h
    · rename_i hc
      obtain ⟨q, hq⟩ := pfx_split hc
      have hql := congrArg List.length hq
      simp at hql
      cases hX : tgN (pre ++ (c :: r).take (2 + (opn ((c :: r).drop 2)).2.2)) ((c :: r).drop (2 + (opn ((c :: r).drop 2)).2.2)) [] with
      | none => rw [hX] at h; cases h
      | some x =>
        obtain ⟨p', r', code⟩ := x
        rw [hX] at h
        have hlt := (tg_out _ _ _ _ _ _ _ hX).1
        simp only [List.length_drop, List.length_cons] at hlt
        have := rd_len lines n _ _ _ _ _ _ (by omega) h
        have h1 := hcl (if (opn ((c :: r).drop 2)).2.1 then trim t fp else t) fp
        simp only [List.length_append, List.isEmpty_nil, if_true, List.length_cons, List.length_nil] at this ⊢
        omega
    · have := rd_len lines n _ _ _ _ _ _ (by omega) h
      have h1 := hle1 (t ++ [c])
      simp only [List.length_cons] at this ⊢
      omega
theorem parts_len (s : List UInt8) (lines : Bool) : (parts s lines).1.length ≤ 100000 := by
  by_cases hs : s.length ≤ 50000
  · rw [parts_ok s lines hs]
    cases hR : rdN lines [] s [] [] [] with
    | ok l =>
      have := rd_len lines _ _ _ _ _ _ _ (Nat.le_refl _) hR
      simp at this
      show l.length ≤ _
      omega
    | error n => simp
  · unfold parts
    rw [if_pos (by omega)]
    simp
/-- Are there only texts? -/
def plainP (s : List UInt8) (lines : Bool) : Bool × Int := if (parts s lines).2.2 = 0 then (!anyC (parts s lines).1, 0) else (false, (parts s lines).2.2)
theorem Plain_c (s : List UInt8) (lines : Bool) (hs : s.length ≤ 1000000000000) : ∀ H, (∀ w, Facts H w → MaxF w) → SpecH Tryz.prog 8 (pvs [.string (bs s), .bool lines]) H (Ret (.tuple #[.bool (plainP s lines).1, .int .i64 (plainP s lines).2]) H) := by
  refine factC hm Tryz.func8 (by kernel_rfl) rfl rfl ?_
  have hlen := parts_len s lines
  unfold plainP
  ((conv => whnf); (repeat ((first | refine BoxN.own ?_ | refine VrN.norm (wrap_i64 (by omega)) ?_ | refine VrN.keep ?_ | refine DrawN.calm (by decide +kernel) ?_ | refine Nd.mk (by decide +kernel) ?_ | refine Nd.mk (by omega) ?_ | (refine Nd.mk ?_ ?_; focus ((repeat' (first | exact trivial | exact wkE_refl _ | refine And.intro ?_ ?_)); done)) | refine RdN.intro _ rfl (by rfl) ?_); (conv => whnf))))
  refine SpecF.call (Parts_c s lines hs) (fun w hw => hw.1) fun v G hR => ?_
  obtain ⟨ob, cap, rfl, hn, hG⟩ := hR
  ((conv => whnf); (repeat ((first | refine BoxN.own ?_ | refine VrN.norm (wrap_i64 (by omega)) ?_ | refine VrN.keep ?_ | refine DrawN.calm (by decide +kernel) ?_ | refine Nd.mk (by decide +kernel) ?_ | refine Nd.mk (by omega) ?_ | (refine Nd.mk ?_ ?_; focus ((repeat' (first | exact trivial | exact wkE_refl _ | refine And.intro ?_ ?_)); done)) | refine RdN.intro _ rfl (by rfl) ?_); (conv => whnf))))
  refine brd_ne (fun h => ?_) (fun h => ?_)
  · rw [if_neg h]
    ((conv => whnf); (repeat ((first | refine BoxN.own ?_ | refine VrN.norm (wrap_i64 (by omega)) ?_ | refine VrN.keep ?_ | refine DrawN.calm (by decide +kernel) ?_ | refine Nd.mk (by decide +kernel) ?_ | refine Nd.mk (by omega) ?_ | (refine Nd.mk ?_ ?_; focus ((repeat' (first | exact trivial | exact wkE_refl _ | refine And.intro ?_ ?_)); done)) | refine RdN.intro _ rfl (by rfl) ?_); (conv => whnf))))
  · rw [if_pos h]
    ((conv => whnf); (repeat ((first | refine BoxN.own ?_ | refine VrN.norm (wrap_i64 (by omega)) ?_ | refine VrN.keep ?_ | refine DrawN.calm (by decide +kernel) ?_ | refine Nd.mk (by decide +kernel) ?_ | refine Nd.mk (by omega) ?_ | (refine Nd.mk ?_ ?_; focus ((repeat' (first | exact trivial | exact wkE_refl _ | refine And.intro ?_ ?_)); done)) | refine RdN.intro _ rfl (by rfl) ?_); (conv => whnf))))
    refine call1 (ContainsFunc_c (at0 ob) cap (parts s lines).1 (by omega) (fun h => hn (by cases ob <;> simp_all [at0])) _ fun w hw => hG w hw.2.1) ?_
    ((conv => whnf); (repeat ((first | refine BoxN.own ?_ | refine VrN.norm (wrap_i64 (by omega)) ?_ | refine VrN.keep ?_ | refine DrawN.calm (by decide +kernel) ?_ | refine Nd.mk (by decide +kernel) ?_ | refine Nd.mk (by omega) ?_ | (refine Nd.mk ?_ ?_; focus ((repeat' (first | exact trivial | exact wkE_refl _ | refine And.intro ?_ ?_)); done)) | refine RdN.intro _ rfl (by rfl) ?_); (conv => whnf))))
end Go.Proofs.YtfcjgklghgpddaaGreatDoor

/-
  Plain Lean: parts that are written are read again.
-/
namespace Go.Erb

/-- What may stand behind a text: nothing, or a tag. -/
def tagAt (z : B) : Prop := z = [] ∨ ∃ y, z = 60 :: 37 :: y ∧ [37].isPrefixOf y = false
theorem rd_esc_app (z : B) (hz : tagAt z) : ∀ (n : Nat) (s pre t fp : B) (out : List Part), s.length ≤ n → rdN false pre (esc s ++ z) t fp out = rdN false (pre ++ esc s) z (t ++ s) (if s.isEmpty then fp else fpOf t fp pre) out
  | _, [], pre, t, fp, out, _ => by simp [esc]
  | 0, _ :: _, _, _, _, _, h => by simp at h
  | n + 1, c :: r, pre, t, fp, out, hn => by
    unfold esc
    split
    · rename_i h
      obtain ⟨r', hr⟩ : ∃ r', r = 37 :: r' := by
        cases r with
        | nil => simp [List.isPrefixOf] at h
        | cons d r => simp [List.isPrefixOf] at h; exact ⟨r, by rw [← h.2]⟩
      subst hr
      have hc : c = 60 := by simp [List.isPrefixOf] at h; exact h.symm
      subst hc
      rw [List.cons_append, rdN_cons]
      simp only [Bool.false_and, Bool.false_eq_true, if_false]
      rw [if_pos (by simp [List.isPrefixOf])]
      simp only [List.cons_append, List.drop_succ_cons, List.drop_zero]
      rw [rd_esc_app z hz n r' _ _ _ _ (by simp at hn; omega)]
      simp [fpOf]
    · rename_i h
      rw [List.cons_append, rdN_cons]
      simp only [Bool.false_and, Bool.false_eq_true, if_false]
      have h1 : ¬ [60, 37].isPrefixOf (c :: (esc r ++ z)) = true := by
        simp only [List.isPrefixOf, Bool.and_eq_true, beq_iff_eq] at h ⊢
        rintro ⟨h2, h3⟩
        cases r with
        | nil =>
          rcases hz with rfl | ⟨y, rfl, _⟩
          · simp [esc] at h3
          · simp [esc] at h3
        | cons d r =>
          refine h ⟨h2, ?_⟩
          have := esc_head 37 (d :: r)
          simp only [List.isPrefixOf, Bool.and_true] at this ⊢
          rw [← this]
          cases he : esc (d :: r) with
          | nil => unfold esc at he; split at he <;> cases he
          | cons x y => rw [he] at h3; simpa [List.isPrefixOf] using h3
      have h2 : ¬ [60, 37, 37].isPrefixOf (c :: (esc r ++ z)) = true := fun h3 => h1 (by
        rw [List.isPrefixOf_iff_prefix] at h3 ⊢
        exact List.IsPrefix.trans ⟨[37], rfl⟩ h3)
      rw [if_neg h2, if_neg h1, rd_esc_app z hz n r _ _ _ _ (by simpa using hn)]
      simp [fpOf]

/-- The inside of a tag, written. -/
def repl : B → B
  | [] => []
  | c :: r => if [37, 62].isPrefixOf (c :: r) then 37 :: 37 :: 62 :: repl (r.drop 1) else c :: repl r
termination_by s => s.length
def ends (t : B) (c : UInt8) : Bool := match t.getLast? with | some d => d == c | none => false
theorem ends_cons {t : B} {c d : UInt8} (h : ends (d :: t) c = false) : ends t c = false := by
  cases t with
  | nil => rfl
  | cons x t => simpa [ends] using h
theorem repl_head (c : UInt8) (r : B) : (repl (c :: r)).head? = some c := by
  unfold repl
  split
  · rename_i h
    cases r <;> simp [List.isPrefixOf] at h
    simp [h.1]
  · rfl
theorem repl_app_head (r z : B) (hr : r ≠ []) : (repl r ++ z).head? = r.head? := by
  cases r with
  | nil => exact absurd rfl hr
  | cons c r =>
    have h := repl_head c r
    cases he : repl (c :: r) with
    | nil => rw [he] at h; cases h
    | cons x y => rw [he] at h; simpa using h
/-- Two bytes ahead in what is written. -/
theorem repl_two (r z : B) (h45 : ends r 37 = false) : ∀ q, (repl r ++ 37 :: 62 :: z) = 37 :: 62 :: q → r = [] := by
  intro q hq
  cases r with
  | nil => rfl
  | cons c r =>
    unfold repl at hq
    split at hq
    · simp at hq
    · rename_i h
      simp only [List.cons_append, List.cons.injEq] at hq
      obtain ⟨rfl, hq⟩ := hq
      cases r with
      | nil => simp [ends] at h45
      | cons d r =>
        have := repl_app_head (d :: r) (37 :: 62 :: z) (by simp)
        rw [hq] at this
        simp at this
        subst this
        simp [List.isPrefixOf] at h
theorem tg_repl (z : B) : ∀ (n : Nat) (c pre acc : B), c.length ≤ n → ends c 45 = false → ends c 37 = false → tgN pre (repl c ++ 37 :: 62 :: z) acc = some (pre ++ repl c ++ [37, 62], z, acc ++ c)
  | _, [], pre, acc, _, _, _ => by
    simp only [repl, List.nil_append]
    rw [tgN_cons, if_neg (by simp [List.isPrefixOf]), if_neg (by simp [List.isPrefixOf]), if_pos (by simp [List.isPrefixOf])]
    simp
  | 0, _ :: _, _, _, h, _, _ => by simp at h
  | n + 1, x :: r, pre, acc, hn, h45, h37 => by
    have e45 := ends_cons h45
    have e37 := ends_cons h37
    unfold repl
    split
    · rename_i h
      obtain ⟨r', hr⟩ : ∃ r', r = 62 :: r' := by
        cases r with
        | nil => simp [List.isPrefixOf] at h
        | cons d r => simp [List.isPrefixOf] at h; exact ⟨r, by rw [← h.2]⟩
      subst hr
      have hx : x = 37 := by simp [List.isPrefixOf] at h; exact h.symm
      subst hx
      rw [List.cons_append, tgN_cons, if_pos (by simp [List.isPrefixOf])]
      simp only [List.cons_append, List.drop_succ_cons, List.drop_zero]
      rw [tg_repl z n r' _ _ (by simp at hn; omega) (ends_cons e45) (ends_cons e37)]
      simp
    · rename_i h
      have two : ∀ q, (repl r ++ 37 :: 62 :: z) = 37 :: 62 :: q → r = [] := repl_two r z e37
      have one : x = 37 → ∀ q, (repl r ++ 37 :: 62 :: z) = 62 :: q → False := by
        intro hx q hq
        subst hx
        cases r with
        | nil => simp [repl] at hq
        | cons d r =>
          have := repl_app_head (d :: r) (37 :: 62 :: z) (by simp)
          rw [hq] at this
          simp at this
          subst this
          simp [List.isPrefixOf] at h
      have pfx : ∀ (l : B), l.isPrefixOf (repl r ++ 37 :: 62 :: z) = true → ∃ q, (repl r ++ 37 :: 62 :: z) = l ++ q := fun l hl => by
        rw [List.isPrefixOf_iff_prefix] at hl
        obtain ⟨q, hq⟩ := hl
        exact ⟨q, hq.symm⟩
      rw [List.cons_append, tgN_cons, if_neg, if_neg, if_neg, tg_repl z n r _ _ (by simpa using hn) e45 e37]
      · simp
      · intro hp
        rw [List.isPrefixOf, Bool.and_eq_true, beq_iff_eq] at hp
        obtain ⟨q, hq⟩ := pfx _ hp.2
        exact one hp.1.symm q hq
      · intro hp
        rw [List.isPrefixOf, Bool.and_eq_true, beq_iff_eq] at hp
        obtain ⟨q, hq⟩ := pfx _ hp.2
        have := two q hq
        subst this
        rw [← hp.1] at h45
        simp [ends] at h45
      · intro hp
        rw [List.isPrefixOf, Bool.and_eq_true, beq_iff_eq] at hp
        obtain ⟨q, hq⟩ := pfx _ hp.2
        have := two q hq
        subst this
        rw [← hp.1] at h37
        simp [ends] at h37

/-- Can a part not be written behind a part? pv: that was a text. -/
def bad (pv : Bool) (k : Int) (t : B) : Bool :=
  decide (k < 0) || decide (k > 3) || (k == 0 && (t.isEmpty || pv)) || (k != 0 && (ends t 45 || ends t 37)) ||
    (k == 1 && (match t.head? with | none => true | some c => c == 61 || c == 35 || c == 37 || c == 45))
def front (k : Int) : B := if k == 1 then [60, 37] else if k == 2 then [60, 37, 61] else [60, 37, 35]
def piece (k : Int) (t : B) : B := if k == 0 then esc t else front k ++ repl t ++ [37, 62]
def fits : Bool → List Part → Bool
  | _, [] => true
  | pv, p :: l => !bad pv p.kind p.text && fits (p.kind == 0) l
def text : List Part → B
  | [] => []
  | p :: l => piece p.kind p.text ++ text l
def bare (p : Part) : Int × B := (p.kind, p.text)

theorem tag_start {pv : Bool} {k : Int} {t : B} (h : bad pv k t = false) (h0 : k ≠ 0) (z : B) : ∃ y, piece k t ++ z = 60 :: 37 :: y ∧ [37].isPrefixOf y = false ∧ opn y = (k, false, if k = 1 then 0 else 1) ∧ y.drop (if k = 1 then 0 else 1) = repl t ++ 37 :: 62 :: z := by
  simp only [bad, Bool.or_eq_false_iff, decide_eq_false_iff_not] at h
  obtain ⟨⟨⟨⟨h1, h2⟩, _⟩, _⟩, h5⟩ := h
  have hk : k = 1 ∨ k = 2 ∨ k = 3 := by omega
  have hp : piece k t = front k ++ repl t ++ [37, 62] := by unfold piece; rw [if_neg (by simpa using h0)]
  rw [hp]
  rcases hk with rfl | rfl | rfl
  · refine ⟨repl t ++ 37 :: 62 :: z, by simp [front], ?_, ?_, by simp⟩
    · cases t with
      | nil => simp at h5
      | cons c r =>
        have := repl_app_head (c :: r) (37 :: 62 :: z) (by simp)
        simp at h5
        cases he : repl (c :: r) ++ 37 :: 62 :: z with
        | nil => rfl
        | cons x y =>
          rw [he] at this
          simp at this
          subst this
          simp [List.isPrefixOf]
          exact fun e => h5.1.2 e.symm
    · cases t with
      | nil => simp at h5
      | cons c r =>
        unfold opn
        rw [repl_app_head (c :: r) (37 :: 62 :: z) (by simp)]
        simp at h5
        simp [h5]
  · exact ⟨61 :: (repl t ++ 37 :: 62 :: z), by simp [front], by simp [List.isPrefixOf], by simp [opn], by simp⟩
  · exact ⟨35 :: (repl t ++ 37 :: 62 :: z), by simp [front], by simp [List.isPrefixOf], by simp [opn], by simp⟩
theorem fits_tag : ∀ {l : List Part}, fits true l = true → tagAt (text l)
  | [], _ => .inl rfl
  | p :: l, h => by
    simp only [fits, Bool.and_eq_true, Bool.not_eq_true'] at h
    have h0 : p.kind ≠ 0 := fun e => by
      have := h.1
      simp [bad, e] at this
    obtain ⟨y, h1, h2, _⟩ := tag_start h.1 h0 (text l)
    exact .inr ⟨y, h1, h2⟩
theorem rd_text : ∀ (l : List Part) (pv : Bool), fits pv l = true → ∀ (pre t fp : B) (out : List Part), (pv = false → t = []) → ∃ ps, rdN false pre (text l) t fp out = .ok (close t fp out ++ ps) ∧ ps.map bare = l.map bare
  | [], _, _, pre, t, fp, out, _ => ⟨[], by simp [text, rdN_nil], rfl⟩
  | p :: l, pv, h, pre, t, fp, out, ht => by
    simp only [fits, Bool.and_eq_true, Bool.not_eq_true'] at h
    obtain ⟨hb, hf⟩ := h
    by_cases h0 : p.kind = 0
    · have hpv : pv = false := by
        simp [bad, h0] at hb
        exact hb.2
      have hne : p.text ≠ [] := by
        simp [bad, h0] at hb
        simpa using hb.1
      have := ht hpv
      subst this
      have hpc : piece p.kind p.text = esc p.text := by simp [piece, h0]
      simp only [text, hpc]
      have hk : (p.kind == 0) = true := by simp [h0]
      rw [hk] at hf
      rw [rd_esc_app _ (fits_tag hf) _ p.text _ _ _ _ (Nat.le_refl _)]
      obtain ⟨ps, h1, h2⟩ := rd_text l true hf (pre ++ esc p.text) ([] ++ p.text) (if p.text.isEmpty then fp else fpOf [] fp pre) out (fun h => by cases h)
      refine ⟨⟨0, ln (if p.text.isEmpty then fp else fpOf [] fp pre), p.text⟩ :: ps, ?_, by simp [h2, bare, h0]⟩
      rw [h1]
      have hie : p.text.isEmpty = false := by cases hp : p.text <;> simp_all
      simp [close, hie]
    · obtain ⟨y, h1, h2, h3, h4⟩ := tag_start hb h0 (text l)
      have hk : (p.kind == 0) = false := by simpa using h0
      rw [hk] at hf
      have he : ends p.text 45 = false ∧ ends p.text 37 = false := by
        simp [bad, h0] at hb
        exact hb.1.2
      simp only [text]
      rw [h1, rdN_cons]
      simp only [Bool.false_and, Bool.false_eq_true, if_false]
      rw [if_neg (by rw [List.isPrefixOf, List.isPrefixOf, h2]; simp), if_pos (by simp [List.isPrefixOf])]
      simp only [List.drop_succ_cons, List.drop_zero, h3]
      have hd : List.drop (2 + if p.kind = 1 then 0 else 1) (60 :: 37 :: y) = repl p.text ++ 37 :: 62 :: text l := by
        rw [← h4, Nat.add_comm]
        rfl
      rw [hd, tg_repl _ _ p.text _ _ (Nat.le_refl _) he.1 he.2]
      simp only [Bool.false_eq_true, if_false, List.nil_append]
      obtain ⟨ps, h5, h6⟩ := rd_text l false hf (pre ++ List.take (2 + if p.kind = 1 then 0 else 1) (60 :: 37 :: y) ++ repl p.text ++ [37, 62]) [] fp (close t fp out ++ [⟨p.kind, ln pre, p.text⟩]) (fun _ => rfl)
      refine ⟨⟨p.kind, ln pre, p.text⟩ :: ps, ?_, by simp [h6, bare]⟩
      rw [h5]
      simp [close]
theorem esc_len : ∀ (n : Nat) (s : B), s.length ≤ n → (esc s).length ≤ 2 * s.length
  | _, [], _ => by simp [esc]
  | 0, _ :: _, h => by simp at h
  | n + 1, c :: r, h => by
    unfold esc
    split
    · rename_i hp
      cases r with
      | nil => simp [List.isPrefixOf] at hp
      | cons d r =>
        have := esc_len n r (by simp at h; omega)
        simp; omega
    · have := esc_len n r (by simpa using h)
      simp; omega
theorem repl_len : ∀ (n : Nat) (s : B), s.length ≤ n → (repl s).length ≤ 2 * s.length
  | _, [], _ => by simp [repl]
  | 0, _ :: _, h => by simp at h
  | n + 1, c :: r, h => by
    unfold repl
    split
    · rename_i hp
      cases r with
      | nil => simp [List.isPrefixOf] at hp
      | cons d r =>
        have := repl_len n r (by simp at h; omega)
        simp; omega
    · have := repl_len n r (by simpa using h)
      simp; omega
end Go.Erb

/-
  Contracts: parts compared; the chapter's example; the law ErbEscapes.
-/
namespace Go.Proofs.YtfcjgklghgpddaaGreatDoor
open Go.AX Go.RowKit Go.Erb
set_option maxRecDepth 20000

def sameP (lines : Bool) (a b : Part) : Bool := a.kind == b.kind && (a.text == b.text && (!lines || a.line == b.line))
def sameB (lines : Bool) : List Part → List Part → Bool
  | [], [] => true
  | a :: l, b :: m => sameP lines a b && sameB lines l m
  | _, _ => false
theorem sameB_len {lines : Bool} : ∀ {l m : List Part}, l.length ≠ m.length → sameB lines l m = false
  | [], [], h => absurd rfl h
  | [], _ :: _, _ => rfl
  | _ :: _, [], _ => rfl
  | a :: l, b :: m, h => by simp [sameB, sameB_len (lines := lines) (l := l) (m := m) (by simpa using h)]
theorem sameB_refl (lines : Bool) : ∀ l : List Part, sameB lines l l = true
  | [] => rfl
  | a :: l => by simp [sameB, sameP, sameB_refl lines l]

theorem same_c (a : Option Addr) (ca : Nat) (l : List Part) (b : Option Addr) (cb : Nat) (m : List Part) (lines : Bool) (hl : l.length ≤ 1000000) (ha : a = none → l = []) (hb : b = none → m = []) :
    ∀ H, (∀ w, Facts H w → SlAt a (l.length * 3) (partsC l) w ∧ SlAt b (m.length * 3) (partsC m) w) →
    SpecH Tryz.prog 27 (pvs [.slice a l.length ca, .slice b m.length cb, .bool lines]) H (Ret (.bool (sameB lines l m)) H) := by
  refine factC hm Tryz.func27 (by kernel_rfl) rfl rfl ?_
  ((conv => whnf); (repeat ((first | refine BoxN.own ?_ | refine VrN.norm (wrap_i64 (by omega)) ?_ | refine VrN.keep ?_ | refine DrawN.calm (by decide +kernel) ?_ | refine Nd.mk (by decide +kernel) ?_ | refine Nd.mk (by omega) ?_ | (refine Nd.mk ?_ ?_; focus ((repeat' (first | exact trivial | exact wkE_refl _ | refine And.intro ?_ ?_)); done)) | refine RdN.intro _ rfl (by rfl) ?_); (conv => whnf))))
  refine brd_ne (fun h0 => ?_) (fun h0 => ?_)
  · rw [sameB_len (fun h => h0 (by omega))]
    ((conv => whnf); (repeat ((first | refine BoxN.own ?_ | refine VrN.norm (wrap_i64 (by omega)) ?_ | refine VrN.keep ?_ | refine DrawN.calm (by decide +kernel) ?_ | refine Nd.mk (by decide +kernel) ?_ | refine Nd.mk (by omega) ?_ | (refine Nd.mk ?_ ?_; focus ((repeat' (first | exact trivial | exact wkE_refl _ | refine And.intro ?_ ?_)); done)) | refine RdN.intro _ rfl (by rfl) ?_); (conv => whnf))))
  have hlm : l.length = m.length := by omega
  ((conv => whnf); (repeat ((first | refine BoxN.own ?_ | refine VrN.norm (wrap_i64 (by omega)) ?_ | refine VrN.keep ?_ | refine DrawN.calm (by decide +kernel) ?_ | refine Nd.mk (by decide +kernel) ?_ | refine Nd.mk (by omega) ?_ | (refine Nd.mk ?_ ?_; focus ((repeat' (first | exact trivial | exact wkE_refl _ | refine And.intro ?_ ?_)); done)) | refine RdN.intro _ rfl (by rfl) ?_); (conv => whnf))))
  refine loopS Nat (fun i => i ≤ l.length ∧ sameB lines (l.drop i) (m.drop i) = sameB lines l m) (fun i => mkS Tryz.f27.ntmps 0 [(0, .c (.v (.slice a l.length ca))), (1, .c (.v (.slice b m.length cb))), (2, .c (.v (.bool lines))), (7, .c (.v (.int .i64 (i : Int))))]) (fun i => l.length - i) rfl (fun _ => rfl) 0 ⟨by omega, rfl⟩ ?_ fun i ⟨hi, he⟩ => ?_
  · (repeat' (first | exact trivial | refine And.intro (by with_reducible rfl) ?_ | (with_reducible exact wkC_refl _) | (with_reducible exact wkCs_refl _) | refine And.intro ?_ ?_))
    all_goals rfl
  ((conv => whnf); (repeat ((first | refine BoxN.own ?_ | refine VrN.norm (wrap_i64 (by omega)) ?_ | refine VrN.keep ?_ | refine DrawN.calm (by decide +kernel) ?_ | refine Nd.mk (by decide +kernel) ?_ | refine Nd.mk (by omega) ?_ | (refine Nd.mk ?_ ?_; focus ((repeat' (first | exact trivial | exact wkE_refl _ | refine And.intro ?_ ?_)); done)) | refine RdN.intro _ rfl (by rfl) ?_); (conv => whnf))))
  refine brd_dec (fun h1 => ?_) (fun h1 => ?_)
  · have hp : ∃ p, l[i]? = some p := ⟨_, List.getElem?_eq_getElem (by omega)⟩
    obtain ⟨p, hp⟩ := hp
    have hq : ∃ q, m[i]? = some q := ⟨_, List.getElem?_eq_getElem (by omega)⟩
    obtain ⟨q, hq⟩ := hq
    have hd : l.drop i = p :: l.drop (i + 1) := by
      obtain ⟨h, rfl⟩ := List.getElem?_eq_some_iff.1 hp
      exact List.drop_eq_getElem_cons h
    have hd2 : m.drop i = q :: m.drop (i + 1) := by
      obtain ⟨h, rfl⟩ := List.getElem?_eq_some_iff.1 hq
      exact List.drop_eq_getElem_cons h
    rw [hd, hd2, sameB] at he
    have hsa : a.isSome = true := by
      cases a with
      | none => rw [ha rfl] at hp; cases hp
      | some _ => rfl
    have hsb : b.isSome = true := by
      cases b with
      | none => rw [hb rfl] at hq; cases hq
      | some _ => rfl
    have next : sameP lines p q = true → (↑i : Int) < l.length → sameB lines (l.drop (i + 1)) (m.drop (i + 1)) = sameB lines l m := fun h _ => by rw [← he, h]; simp
    ((conv => whnf); (repeat ((first | refine BoxN.own ?_ | refine VrN.norm (wrap_i64 (by omega)) ?_ | refine VrN.keep ?_ | refine DrawN.calm (by decide +kernel) ?_ | refine Nd.mk (by decide +kernel) ?_ | refine Nd.mk (by omega) ?_ | (refine Nd.mk ?_ ?_; focus ((repeat' (first | exact trivial | exact wkE_refl _ | refine And.intro ?_ ?_)); done)) | refine RdN.intro _ rfl (by rfl) ?_); (conv => whnf))))
    refine Nd.mk ⟨hsa, by omega, by omega⟩ ?_
    ((conv => whnf); (repeat ((first | refine BoxN.own ?_ | refine VrN.norm (wrap_i64 (by omega)) ?_ | refine VrN.keep ?_ | refine DrawN.calm (by decide +kernel) ?_ | refine Nd.mk (by decide +kernel) ?_ | refine Nd.mk (by omega) ?_ | (refine Nd.mk ?_ ?_; focus ((repeat' (first | exact trivial | exact wkE_refl _ | refine And.intro ?_ ?_)); done)) | refine RdN.intro _ rfl (by rfl) ?_); (conv => whnf))))
    refine LdN.fld (.int .i64 p.kind) rfl (fun w hw => hw.1.1) (by rw [Int.toNat_natCast]; exact partsC_get l i 0 (by decide) hp) ?_
    ((conv => whnf); (repeat ((first | refine BoxN.own ?_ | refine VrN.norm (wrap_i64 (by omega)) ?_ | refine VrN.keep ?_ | refine DrawN.calm (by decide +kernel) ?_ | refine Nd.mk (by decide +kernel) ?_ | refine Nd.mk (by omega) ?_ | (refine Nd.mk ?_ ?_; focus ((repeat' (first | exact trivial | exact wkE_refl _ | refine And.intro ?_ ?_)); done)) | refine RdN.intro _ rfl (by rfl) ?_); (conv => whnf))))
    refine Nd.mk ⟨hsb, by omega, by omega⟩ ?_
    ((conv => whnf); (repeat ((first | refine BoxN.own ?_ | refine VrN.norm (wrap_i64 (by omega)) ?_ | refine VrN.keep ?_ | refine DrawN.calm (by decide +kernel) ?_ | refine Nd.mk (by decide +kernel) ?_ | refine Nd.mk (by omega) ?_ | (refine Nd.mk ?_ ?_; focus ((repeat' (first | exact trivial | exact wkE_refl _ | refine And.intro ?_ ?_)); done)) | refine RdN.intro _ rfl (by rfl) ?_); (conv => whnf))))
    refine LdN.fld (.int .i64 q.kind) rfl (fun w hw => hw.1.2) (by rw [Int.toNat_natCast]; exact partsC_get m i 0 (by decide) hq) ?_
    ((conv => whnf); (repeat ((first | refine BoxN.own ?_ | refine VrN.norm (wrap_i64 (by omega)) ?_ | refine VrN.keep ?_ | refine DrawN.calm (by decide +kernel) ?_ | refine Nd.mk (by decide +kernel) ?_ | refine Nd.mk (by omega) ?_ | (refine Nd.mk ?_ ?_; focus ((repeat' (first | exact trivial | exact wkE_refl _ | refine And.intro ?_ ?_)); done)) | refine RdN.intro _ rfl (by rfl) ?_); (conv => whnf))))
    refine brd_ne (fun h2 => ?_) (fun h2 => ?_)
    · have hs : sameP lines p q = false := by simp [sameP, h2]
      rw [hs] at he
      ((conv => whnf); (repeat ((first | refine BoxN.own ?_ | refine VrN.norm (wrap_i64 (by omega)) ?_ | refine VrN.keep ?_ | refine DrawN.calm (by decide +kernel) ?_ | refine Nd.mk (by decide +kernel) ?_ | refine Nd.mk (by omega) ?_ | (refine Nd.mk ?_ ?_; focus ((repeat' (first | exact trivial | exact wkE_refl _ | refine And.intro ?_ ?_)); done)) | refine RdN.intro _ rfl (by rfl) ?_); (conv => whnf))))
      rw [← he]
      rfl
    ((conv => whnf); (repeat ((first | refine BoxN.own ?_ | refine VrN.norm (wrap_i64 (by omega)) ?_ | refine VrN.keep ?_ | refine DrawN.calm (by decide +kernel) ?_ | refine Nd.mk (by decide +kernel) ?_ | refine Nd.mk (by omega) ?_ | (refine Nd.mk ?_ ?_; focus ((repeat' (first | exact trivial | exact wkE_refl _ | refine And.intro ?_ ?_)); done)) | refine RdN.intro _ rfl (by rfl) ?_); (conv => whnf))))
    refine Nd.mk ⟨hsa, by omega, by omega⟩ ?_
    ((conv => whnf); (repeat ((first | refine BoxN.own ?_ | refine VrN.norm (wrap_i64 (by omega)) ?_ | refine VrN.keep ?_ | refine DrawN.calm (by decide +kernel) ?_ | refine Nd.mk (by decide +kernel) ?_ | refine Nd.mk (by omega) ?_ | (refine Nd.mk ?_ ?_; focus ((repeat' (first | exact trivial | exact wkE_refl _ | refine And.intro ?_ ?_)); done)) | refine RdN.intro _ rfl (by rfl) ?_); (conv => whnf))))
    refine LdN.fld (.string (bs p.text)) rfl (fun w hw => hw.1.1) (by rw [Int.toNat_natCast]; exact partsC_get l i 2 (by decide) hp) ?_
    ((conv => whnf); (repeat ((first | refine BoxN.own ?_ | refine VrN.norm (wrap_i64 (by omega)) ?_ | refine VrN.keep ?_ | refine DrawN.calm (by decide +kernel) ?_ | refine Nd.mk (by decide +kernel) ?_ | refine Nd.mk (by omega) ?_ | (refine Nd.mk ?_ ?_; focus ((repeat' (first | exact trivial | exact wkE_refl _ | refine And.intro ?_ ?_)); done)) | refine RdN.intro _ rfl (by rfl) ?_); (conv => whnf))))
    refine Nd.mk ⟨hsb, by omega, by omega⟩ ?_
    ((conv => whnf); (repeat ((first | refine BoxN.own ?_ | refine VrN.norm (wrap_i64 (by omega)) ?_ | refine VrN.keep ?_ | refine DrawN.calm (by decide +kernel) ?_ | refine Nd.mk (by decide +kernel) ?_ | refine Nd.mk (by omega) ?_ | (refine Nd.mk ?_ ?_; focus ((repeat' (first | exact trivial | exact wkE_refl _ | refine And.intro ?_ ?_)); done)) | refine RdN.intro _ rfl (by rfl) ?_); (conv => whnf))))
    refine LdN.fld (.string (bs q.text)) rfl (fun w hw => hw.1.2) (by rw [Int.toNat_natCast]; exact partsC_get m i 2 (by decide) hq) ?_
    ((conv => whnf); (repeat ((first | refine BoxN.own ?_ | refine VrN.norm (wrap_i64 (by omega)) ?_ | refine VrN.keep ?_ | refine DrawN.calm (by decide +kernel) ?_ | refine Nd.mk (by decide +kernel) ?_ | refine Nd.mk (by omega) ?_ | (refine Nd.mk ?_ ?_; focus ((repeat' (first | exact trivial | exact wkE_refl _ | refine And.intro ?_ ?_)); done)) | refine RdN.intro _ rfl (by rfl) ?_); (conv => whnf))))
    rw [bs_list, bs_list]
    refine brd_not (brd_intro (fun h3 => ?_) (fun h3 => ?_))
    · have h3 : p.text = q.text := beq_iff_eq.1 h3
      ((conv => whnf); (repeat ((first | refine BoxN.own ?_ | refine VrN.norm (wrap_i64 (by omega)) ?_ | refine VrN.keep ?_ | refine DrawN.calm (by decide +kernel) ?_ | refine Nd.mk (by decide +kernel) ?_ | refine Nd.mk (by omega) ?_ | (refine Nd.mk ?_ ?_; focus ((repeat' (first | exact trivial | exact wkE_refl _ | refine And.intro ?_ ?_)); done)) | refine RdN.intro _ rfl (by rfl) ?_); (conv => whnf))))
      refine brd_intro (fun h4 => ?_) (fun h4 => ?_)
      · ((conv => whnf); (repeat ((first | refine BoxN.own ?_ | refine VrN.norm (wrap_i64 (by omega)) ?_ | refine VrN.keep ?_ | refine DrawN.calm (by decide +kernel) ?_ | refine Nd.mk (by decide +kernel) ?_ | refine Nd.mk (by omega) ?_ | (refine Nd.mk ?_ ?_; focus ((repeat' (first | exact trivial | exact wkE_refl _ | refine And.intro ?_ ?_)); done)) | refine RdN.intro _ rfl (by rfl) ?_); (conv => whnf))))
        refine Nd.mk ⟨hsa, by omega, by omega⟩ ?_
        ((conv => whnf); (repeat ((first | refine BoxN.own ?_ | refine VrN.norm (wrap_i64 (by omega)) ?_ | refine VrN.keep ?_ | refine DrawN.calm (by decide +kernel) ?_ | refine Nd.mk (by decide +kernel) ?_ | refine Nd.mk (by omega) ?_ | (refine Nd.mk ?_ ?_; focus ((repeat' (first | exact trivial | exact wkE_refl _ | refine And.intro ?_ ?_)); done)) | refine RdN.intro _ rfl (by rfl) ?_); (conv => whnf))))
        refine LdN.fld (.int .i64 p.line) rfl (fun w hw => hw.1.1) (by rw [Int.toNat_natCast]; exact partsC_get l i 1 (by decide) hp) ?_
        ((conv => whnf); (repeat ((first | refine BoxN.own ?_ | refine VrN.norm (wrap_i64 (by omega)) ?_ | refine VrN.keep ?_ | refine DrawN.calm (by decide +kernel) ?_ | refine Nd.mk (by decide +kernel) ?_ | refine Nd.mk (by omega) ?_ | (refine Nd.mk ?_ ?_; focus ((repeat' (first | exact trivial | exact wkE_refl _ | refine And.intro ?_ ?_)); done)) | refine RdN.intro _ rfl (by rfl) ?_); (conv => whnf))))
        refine Nd.mk ⟨hsb, by omega, by omega⟩ ?_
        ((conv => whnf); (repeat ((first | refine BoxN.own ?_ | refine VrN.norm (wrap_i64 (by omega)) ?_ | refine VrN.keep ?_ | refine DrawN.calm (by decide +kernel) ?_ | refine Nd.mk (by decide +kernel) ?_ | refine Nd.mk (by omega) ?_ | (refine Nd.mk ?_ ?_; focus ((repeat' (first | exact trivial | exact wkE_refl _ | refine And.intro ?_ ?_)); done)) | refine RdN.intro _ rfl (by rfl) ?_); (conv => whnf))))
        refine LdN.fld (.int .i64 q.line) rfl (fun w hw => hw.1.2) (by rw [Int.toNat_natCast]; exact partsC_get m i 1 (by decide) hq) ?_
        ((conv => whnf); (repeat ((first | refine BoxN.own ?_ | refine VrN.norm (wrap_i64 (by omega)) ?_ | refine VrN.keep ?_ | refine DrawN.calm (by decide +kernel) ?_ | refine Nd.mk (by decide +kernel) ?_ | refine Nd.mk (by omega) ?_ | (refine Nd.mk ?_ ?_; focus ((repeat' (first | exact trivial | exact wkE_refl _ | refine And.intro ?_ ?_)); done)) | refine RdN.intro _ rfl (by rfl) ?_); (conv => whnf))))
        refine brd_ne (fun h5 => ?_) (fun h5 => ?_)
        · have hs : sameP lines p q = false := by simp [sameP, h5, h4]
          rw [hs] at he
          ((conv => whnf); (repeat ((first | refine BoxN.own ?_ | refine VrN.norm (wrap_i64 (by omega)) ?_ | refine VrN.keep ?_ | refine DrawN.calm (by decide +kernel) ?_ | refine Nd.mk (by decide +kernel) ?_ | refine Nd.mk (by omega) ?_ | (refine Nd.mk ?_ ?_; focus ((repeat' (first | exact trivial | exact wkE_refl _ | refine And.intro ?_ ?_)); done)) | refine RdN.intro _ rfl (by rfl) ?_); (conv => whnf))))
          rw [← he]
          rfl
        · ((conv => whnf); (repeat ((first | refine BoxN.own ?_ | refine VrN.norm (wrap_i64 (by omega)) ?_ | refine VrN.keep ?_ | refine DrawN.calm (by decide +kernel) ?_ | refine Nd.mk (by decide +kernel) ?_ | refine Nd.mk (by omega) ?_ | (refine Nd.mk ?_ ?_; focus ((repeat' (first | exact trivial | exact wkE_refl _ | refine And.intro ?_ ?_)); done)) | refine RdN.intro _ rfl (by rfl) ?_); (conv => whnf))))
          refine ⟨i + 1, ⟨by omega, next (by simp [sameP, h2, h3, h5]) h1⟩, by omega, ?_, by (repeat' (first | exact trivial | exact wkE_refl _ | refine And.intro ?_ ?_))⟩
          (repeat' (first | exact trivial | refine And.intro (by with_reducible rfl) ?_ | (with_reducible exact wkC_refl _) | (with_reducible exact wkCs_refl _) | refine And.intro ?_ ?_))
          exact av_int (by omega)
      · ((conv => whnf); (repeat ((first | refine BoxN.own ?_ | refine VrN.norm (wrap_i64 (by omega)) ?_ | refine VrN.keep ?_ | refine DrawN.calm (by decide +kernel) ?_ | refine Nd.mk (by decide +kernel) ?_ | refine Nd.mk (by omega) ?_ | (refine Nd.mk ?_ ?_; focus ((repeat' (first | exact trivial | exact wkE_refl _ | refine And.intro ?_ ?_)); done)) | refine RdN.intro _ rfl (by rfl) ?_); (conv => whnf))))
        refine ⟨i + 1, ⟨by omega, next (by simp [sameP, h2, h3, h4]) h1⟩, by omega, ?_, by (repeat' (first | exact trivial | exact wkE_refl _ | refine And.intro ?_ ?_))⟩
        (repeat' (first | exact trivial | refine And.intro (by with_reducible rfl) ?_ | (with_reducible exact wkC_refl _) | (with_reducible exact wkCs_refl _) | refine And.intro ?_ ?_))
        exact av_int (by omega)
    · have hs : sameP lines p q = false := by simp [sameP, h3]
      rw [hs] at he
      ((conv => whnf); (repeat ((first | refine BoxN.own ?_ | refine VrN.norm (wrap_i64 (by omega)) ?_ | refine VrN.keep ?_ | refine DrawN.calm (by decide +kernel) ?_ | refine Nd.mk (by decide +kernel) ?_ | refine Nd.mk (by omega) ?_ | (refine Nd.mk ?_ ?_; focus ((repeat' (first | exact trivial | exact wkE_refl _ | refine And.intro ?_ ?_)); done)) | refine RdN.intro _ rfl (by rfl) ?_); (conv => whnf))))
      rw [← he]
      rfl
  · have e : i = l.length := by omega
    subst e
    rw [List.drop_length, hlm, List.drop_length] at he
    rw [← he]
    ((conv => whnf); (repeat ((first | refine BoxN.own ?_ | refine VrN.norm (wrap_i64 (by omega)) ?_ | refine VrN.keep ?_ | refine DrawN.calm (by decide +kernel) ?_ | refine Nd.mk (by decide +kernel) ?_ | refine Nd.mk (by omega) ?_ | (refine Nd.mk ?_ ?_; focus ((repeat' (first | exact trivial | exact wkE_refl _ | refine And.intro ?_ ?_)); done)) | refine RdN.intro _ rfl (by rfl) ?_); (conv => whnf))))
    rfl
theorem sane_parts : parts [97, 60, 37, 61, 32, 120, 32, 37, 62, 98] false = ([⟨0, 1, [97]⟩, ⟨2, 1, [32, 120, 32]⟩, ⟨0, 1, [98]⟩], 0, 0) := by decide
theorem sane_c : ∀ H, (∀ w, Facts H w → MaxF w) → SpecH Tryz.prog 10 (pvs []) H (Ret (.bool true) H) := by
  refine factC hm Tryz.func10 (by kernel_rfl) rfl rfl ?_
  have hP := Parts_c [97, 60, 37, 61, 32, 120, 32, 37, 62, 98] false (by decide)
  rw [sane_parts] at hP
  ((conv => whnf); (repeat ((first | refine BoxN.own ?_ | refine VrN.norm (wrap_i64 (by omega)) ?_ | refine VrN.keep ?_ | refine DrawN.calm (by decide +kernel) ?_ | refine Nd.mk (by decide +kernel) ?_ | refine Nd.mk (by omega) ?_ | (refine Nd.mk ?_ ?_; focus ((repeat' (first | exact trivial | exact wkE_refl _ | refine And.intro ?_ ?_)); done)) | refine RdN.intro _ rfl (by rfl) ?_); (conv => whnf))))
  refine SpecF.call hP (fun w hw => hw.1) fun v G hR => ?_
  obtain ⟨ob, cap, rfl, hn, hG⟩ := hR
  have hs : (at0 ob).isSome = true := by
    cases ob with
    | none => cases hn rfl
    | some _ => rfl
  ((conv => whnf); (repeat ((first | refine BoxN.own ?_ | refine VrN.norm (wrap_i64 (by omega)) ?_ | refine VrN.keep ?_ | refine DrawN.calm (by decide +kernel) ?_ | refine Nd.mk (by decide +kernel) ?_ | refine Nd.mk (by omega) ?_ | (refine Nd.mk ?_ ?_; focus ((repeat' (first | exact trivial | exact wkE_refl _ | refine And.intro ?_ ?_)); done)) | refine RdN.intro _ rfl (by rfl) ?_); (conv => whnf))))
  refine Nd.mk ⟨hs, by decide, by decide⟩ ?_
  ((conv => whnf); (repeat ((first | refine BoxN.own ?_ | refine VrN.norm (wrap_i64 (by omega)) ?_ | refine VrN.keep ?_ | refine DrawN.calm (by decide +kernel) ?_ | refine Nd.mk (by decide +kernel) ?_ | refine Nd.mk (by omega) ?_ | (refine Nd.mk ?_ ?_; focus ((repeat' (first | exact trivial | exact wkE_refl _ | refine And.intro ?_ ?_)); done)) | refine RdN.intro _ rfl (by rfl) ?_); (conv => whnf))))
  refine LdN.fld (.string (bs [97])) rfl (fun w hw => hG w hw.2.1) rfl ?_
  ((conv => whnf); (repeat ((first | refine BoxN.own ?_ | refine VrN.norm (wrap_i64 (by omega)) ?_ | refine VrN.keep ?_ | refine DrawN.calm (by decide +kernel) ?_ | refine Nd.mk (by decide +kernel) ?_ | refine Nd.mk (by omega) ?_ | (refine Nd.mk ?_ ?_; focus ((repeat' (first | exact trivial | exact wkE_refl _ | refine And.intro ?_ ?_)); done)) | refine RdN.intro _ rfl (by rfl) ?_); (conv => whnf))))
  refine Nd.mk ⟨hs, by decide, by decide⟩ ?_
  ((conv => whnf); (repeat ((first | refine BoxN.own ?_ | refine VrN.norm (wrap_i64 (by omega)) ?_ | refine VrN.keep ?_ | refine DrawN.calm (by decide +kernel) ?_ | refine Nd.mk (by decide +kernel) ?_ | refine Nd.mk (by omega) ?_ | (refine Nd.mk ?_ ?_; focus ((repeat' (first | exact trivial | exact wkE_refl _ | refine And.intro ?_ ?_)); done)) | refine RdN.intro _ rfl (by rfl) ?_); (conv => whnf))))
  refine LdN.fld (.int .i64 2) rfl (fun w hw => hG w hw.2.1) rfl ?_
  ((conv => whnf); (repeat ((first | refine BoxN.own ?_ | refine VrN.norm (wrap_i64 (by omega)) ?_ | refine VrN.keep ?_ | refine DrawN.calm (by decide +kernel) ?_ | refine Nd.mk (by decide +kernel) ?_ | refine Nd.mk (by omega) ?_ | (refine Nd.mk ?_ ?_; focus ((repeat' (first | exact trivial | exact wkE_refl _ | refine And.intro ?_ ?_)); done)) | refine RdN.intro _ rfl (by rfl) ?_); (conv => whnf))))
  refine Nd.mk ⟨hs, by decide, by decide⟩ ?_
  ((conv => whnf); (repeat ((first | refine BoxN.own ?_ | refine VrN.norm (wrap_i64 (by omega)) ?_ | refine VrN.keep ?_ | refine DrawN.calm (by decide +kernel) ?_ | refine Nd.mk (by decide +kernel) ?_ | refine Nd.mk (by omega) ?_ | (refine Nd.mk ?_ ?_; focus ((repeat' (first | exact trivial | exact wkE_refl _ | refine And.intro ?_ ?_)); done)) | refine RdN.intro _ rfl (by rfl) ?_); (conv => whnf))))
  refine LdN.fld (.string (bs [32, 120, 32])) rfl (fun w hw => hG w hw.2.1) rfl ?_
  ((conv => whnf); (repeat ((first | refine BoxN.own ?_ | refine VrN.norm (wrap_i64 (by omega)) ?_ | refine VrN.keep ?_ | refine DrawN.calm (by decide +kernel) ?_ | refine Nd.mk (by decide +kernel) ?_ | refine Nd.mk (by omega) ?_ | (refine Nd.mk ?_ ?_; focus ((repeat' (first | exact trivial | exact wkE_refl _ | refine And.intro ?_ ?_)); done)) | refine RdN.intro _ rfl (by rfl) ?_); (conv => whnf))))
  refine Nd.mk ⟨hs, by decide, by decide⟩ ?_
  ((conv => whnf); (repeat ((first | refine BoxN.own ?_ | refine VrN.norm (wrap_i64 (by omega)) ?_ | refine VrN.keep ?_ | refine DrawN.calm (by decide +kernel) ?_ | refine Nd.mk (by decide +kernel) ?_ | refine Nd.mk (by omega) ?_ | (refine Nd.mk ?_ ?_; focus ((repeat' (first | exact trivial | exact wkE_refl _ | refine And.intro ?_ ?_)); done)) | refine RdN.intro _ rfl (by rfl) ?_); (conv => whnf))))
  refine LdN.fld (.string (bs [98])) rfl (fun w hw => hG w hw.2.1) rfl ?_
  ((conv => whnf); (repeat ((first | refine BoxN.own ?_ | refine VrN.norm (wrap_i64 (by omega)) ?_ | refine VrN.keep ?_ | refine DrawN.calm (by decide +kernel) ?_ | refine Nd.mk (by decide +kernel) ?_ | refine Nd.mk (by omega) ?_ | (refine Nd.mk ?_ ?_; focus ((repeat' (first | exact trivial | exact wkE_refl _ | refine And.intro ?_ ?_)); done)) | refine RdN.intro _ rfl (by rfl) ?_); (conv => whnf))))
  rfl

/-! ### Escape -/
theorem occ_cons (a b c : UInt8) (r : List UInt8) (j : Nat) : Lib.occAt (c :: r) [a, b] (j + 1) = Lib.occAt r [a, b] j := by simp [Lib.occAt]
/-- What two bytes are replaced by, wherever they stand. -/
def g2 (a b : UInt8) (new : List UInt8) : List UInt8 → List UInt8
  | [] => []
  | c :: r => if [a, b].isPrefixOf (c :: r) then new ++ g2 a b new (r.drop 1) else c :: g2 a b new r
termination_by s => s.length
theorem g2_skip (a b : UInt8) (new : List UInt8) : ∀ (i : Nat) (s : List UInt8), Lib.NoOcc s [a, b] i → i ≤ s.length → g2 a b new s = s.take i ++ g2 a b new (s.drop i)
  | 0, s, _, _ => by simp
  | i + 1, [], _, h => by simp at h
  | i + 1, c :: r, h, hi => by
    have h0 : [a, b].isPrefixOf (c :: r) = false := by simpa [Lib.occAt] using h 0 (by omega)
    rw [g2, if_neg (by simp [h0]), g2_skip a b new i r (fun j hj => by rw [← occ_cons a b c]; exact h (j + 1) (by omega)) (by simpa using hi)]
    simp
theorem g2_rpl (a b : UInt8) (new : List UInt8) : ∀ (n : Nat) (s : List UInt8), s.length ≤ n → rpl [a, b] new s = g2 a b new s := by
  intro n
  induction n with
  | zero =>
    intro s h
    have : s = [] := List.eq_nil_of_length_eq_zero (by omega)
    subst this
    simp [g2, rpl, Lib.count, Lib.countFrom, Lib.index, Lib.replaceK]
  | succ n ih =>
    intro s h
    rcases Lib.index_spec s [a, b] with ⟨h1, h2⟩ | ⟨i, h1, h2, h3, h4⟩
    · unfold rpl
      rw [Lib.count_miss h1, Lib.replaceK, g2_skip a b new s.length s (fun j hj => h2 j (by omega)) (Nat.le_refl _)]
      simp [g2]
    · have hr := Lib.index_room s [a, b] (by omega)
      rw [h1] at hr
      simp only [List.length_cons, List.length_nil] at hr
      unfold rpl
      rw [Lib.count_hit (by simp) h1, Nat.add_comm, Lib.replaceK_hit _ _ _ _ i h1, g2_skip a b new i s h4 h2]
      have hi := ih (s.drop (i + 2)) (by simp; omega)
      unfold rpl at hi
      simp only [List.length_cons, List.length_nil]
      rw [hi]
      have hd : ∃ q, s.drop i = a :: b :: q := by
        have h3 : [a, b].isPrefixOf (s.drop i) = true := h3
        obtain ⟨q, hq⟩ := pfx_split h3
        exact ⟨q, hq⟩
      obtain ⟨q, hq⟩ := hd
      have hq2 : s.drop (i + 2) = q := by rw [← List.drop_drop, hq]; rfl
      rw [hq, hq2, g2, if_pos (by simp [List.isPrefixOf])]
      simp
theorem esc_g2 : ∀ (n : Nat) (s : List UInt8), s.length ≤ n → esc s = g2 60 37 [60, 37, 37] s := by
  intro n
  induction n with
  | zero => intro s h; have : s = [] := List.eq_nil_of_length_eq_zero (by omega); subst this; simp [esc, g2]
  | succ n ih =>
    intro s h
    cases s with
    | nil => simp [esc, g2]
    | cons c r =>
      rw [esc, g2]
      split
      · rw [ih _ (by simp at h ⊢; omega)]; rfl
      · rw [ih _ (by simpa using h)]
theorem repl_g2 : ∀ (n : Nat) (s : List UInt8), s.length ≤ n → repl s = g2 37 62 [37, 37, 62] s := by
  intro n
  induction n with
  | zero => intro s h; have : s = [] := List.eq_nil_of_length_eq_zero (by omega); subst this; simp [repl, g2]
  | succ n ih =>
    intro s h
    cases s with
    | nil => simp [repl, g2]
    | cons c r =>
      rw [repl, g2]
      split
      · rw [ih _ (by simp at h ⊢; omega)]; rfl
      · rw [ih _ (by simpa using h)]
theorem ReplaceAll_c (old new s : List UInt8) (h1 : 1 ≤ old.length) (hl : old.length ≤ 100) (hn : new.length ≤ 100) (hne : old ≠ new) (hc : ∀ H, (∀ w, Facts H w → MaxF w) → SpecH Tryz.prog 62 (pvs [.string (bs s), .string (bs old)]) H (Ret (.int .i64 (Lib.count s old : Nat)) H)) (hs : s.length ≤ 1000000) : ∀ H, (∀ w, Facts H w → MaxF w) →
    SpecH Tryz.prog 23 (pvs [.string (bs s), .string (bs old), .string (bs new)]) H (Ret (.string (bs (rpl old new s))) H) := by
  refine factC hm Tryz.func23 (by kernel_rfl) rfl rfl ?_
  ((conv => whnf); (repeat ((first | refine BoxN.own ?_ | refine VrN.norm (wrap_i64 (by omega)) ?_ | refine VrN.keep ?_ | refine DrawN.calm (by decide +kernel) ?_ | refine Nd.mk (by decide +kernel) ?_ | refine Nd.mk (by omega) ?_ | (refine Nd.mk ?_ ?_; focus ((repeat' (first | exact trivial | exact wkE_refl _ | refine And.intro ?_ ?_)); done)) | refine RdN.intro _ rfl (by rfl) ?_); (conv => whnf)))); refine call1 (Replace_c old new s h1 hl hn hne hc hs _ fun w hw => hw.1) ?_
  ((conv => whnf); (repeat ((first | refine BoxN.own ?_ | refine VrN.norm (wrap_i64 (by omega)) ?_ | refine VrN.keep ?_ | refine DrawN.calm (by decide +kernel) ?_ | refine Nd.mk (by decide +kernel) ?_ | refine Nd.mk (by omega) ?_ | (refine Nd.mk ?_ ?_; focus ((repeat' (first | exact trivial | exact wkE_refl _ | refine And.intro ?_ ?_)); done)) | refine RdN.intro _ rfl (by rfl) ?_); (conv => whnf))))
theorem parts_esc (s : List UInt8) (hs : s.length ≤ 3000) : parts (esc s) false = (if s.isEmpty then [] else [⟨0, 1, s⟩], 0, 0) := by
  have hl := esc_len _ s (Nat.le_refl _)
  rw [parts_ok _ _ (by omega), rd_esc _ s _ _ _ _ (Nat.le_refl _)]
  cases s with
  | nil => rfl
  | cons c r => rfl
end Go.Proofs.YtfcjgklghgpddaaGreatDoor

/-
  Contracts: bytes replaced by texts: the document's Quote and Html.
-/
namespace Go.Proofs.YtfcjgklghgpddaaGreatDoor
open Go.AX Go.RowKit Go.Erb
set_option maxRecDepth 20000

/-- One byte replaced. -/
def g1 (a : UInt8) (new s : List UInt8) : List UInt8 := s.flatMap fun c => if c == a then new else [c]
theorem g1_skip (a : UInt8) (new : List UInt8) : ∀ s : List UInt8, Lib.NoOcc s [a] s.length → g1 a new s = s
  | [], _ => rfl
  | c :: r, h => by
    have h0 : [a].isPrefixOf (c :: r) = false := by simpa [Lib.occAt] using h 0 (by simp)
    have hc : (c == a) = false := by
      simp only [List.isPrefixOf, Bool.and_true] at h0
      rw [beq_eq_false_iff_ne] at h0 ⊢
      exact Ne.symm h0
    have ih := g1_skip a new r fun j hj => by
      have := h (j + 1) (by simp; omega)
      simpa [Lib.occAt] using this
    simp only [g1, List.flatMap_cons, hc] at ih ⊢
    rw [ih]; rfl
theorem g1_app (a : UInt8) (new s t : List UInt8) : g1 a new (s ++ t) = g1 a new s ++ g1 a new t := by simp [g1]
theorem g1_rpl (a : UInt8) (new : List UInt8) : ∀ (n : Nat) (s : List UInt8), s.length ≤ n → rpl [a] new s = g1 a new s := by
  intro n
  induction n with
  | zero =>
    intro s h
    have : s = [] := List.eq_nil_of_length_eq_zero (by omega)
    subst this
    simp [g1, rpl, Lib.count, Lib.countFrom, Lib.index, Lib.replaceK]
  | succ n ih =>
    intro s h
    rcases Lib.index_spec s [a] with ⟨h1, h2⟩ | ⟨i, h1, h2, h3, h4⟩
    · unfold rpl
      rw [Lib.count_miss h1, Lib.replaceK, g1_skip a new s fun j hj => h2 j (by omega)]
    · have hr := Lib.index_room s [a] (by omega)
      rw [h1] at hr
      simp only [List.length_cons, List.length_nil] at hr
      unfold rpl
      rw [Lib.count_hit (by simp) h1, Nat.add_comm, Lib.replaceK_hit _ _ _ _ i h1]
      have hi := ih (s.drop (i + 1)) (by simp; omega)
      unfold rpl at hi
      simp only [List.length_cons, List.length_nil]
      rw [hi]
      have hd : ∃ q, s.drop i = a :: q := by
        have h3 : [a].isPrefixOf (s.drop i) = true := h3
        obtain ⟨q, hq⟩ := pfx_split h3
        exact ⟨q, hq⟩
      obtain ⟨q, hq⟩ := hd
      have hq2 : s.drop (i + 1) = q := by rw [← List.drop_drop, hq]; rfl
      have hsk : g1 a new (s.take i) = s.take i := g1_skip a new _ fun j hj => by
        rw [List.length_take] at hj
        have := h4 j (by omega)
        simp only [Lib.occAt] at this ⊢
        rw [List.drop_take]
        by_cases hz : s.drop j = []
        · rw [hz]; simp
        · obtain ⟨d, w, hw⟩ := List.exists_cons_of_ne_nil hz
          rw [hw] at this ⊢
          obtain ⟨m, hm⟩ : ∃ m, i - j = m + 1 := ⟨i - j - 1, by omega⟩
          rw [hm]
          simpa [List.isPrefixOf] using this
      conv => rhs; rw [← List.take_append_drop i s, g1_app, hsk, hq]
      rw [hq2]
      simp [g1]
theorem g1_flat (a : UInt8) (new s : List UInt8) (f : UInt8 → List UInt8) : g1 a new (s.flatMap f) = s.flatMap fun c => g1 a new (f c) := by
  induction s with
  | nil => rfl
  | cons c r ih => rw [List.flatMap_cons, g1_app, ih, List.flatMap_cons]
theorem g1_self (a : UInt8) (new s : List UInt8) : g1 a new s = s.flatMap fun c => g1 a new [c] := by
  induction s with
  | nil => rfl
  | cons c r ih => rw [show c :: r = [c] ++ r from rfl, g1_app, ih]; simp
theorem flat_le {f : UInt8 → List UInt8} {m : Nat} (h : ∀ c, (f c).length ≤ m) (s : List UInt8) : (s.flatMap f).length ≤ m * s.length := by
  induction s with
  | nil => simp
  | cons c r ih =>
    have := h c
    rw [List.flatMap_cons, List.length_append, List.length_cons, Nat.mul_add, Nat.mul_one]
    omega
theorem Repl1_c (a : UInt8) (new s : List UInt8) (hn : new.length ≤ 100) (hne : [a] ≠ new) (hs : s.length ≤ 1000000) : ∀ H, (∀ w, Facts H w → MaxF w) → SpecH Tryz.prog 23 (pvs [.string (bs s), .string (bs [a]), .string (bs new)]) H (Ret (.string (bs (g1 a new s))) H) := by
  have h := ReplaceAll_c [a] new s (by simp) (by simp) hn hne (fun H _ => by rw [Lib.count_one]; exact Count1_c s a H) hs
  rw [g1_rpl a new _ s (Nat.le_refl _)] at h
  exact h
/-- A byte as the language writes it. -/
def qt (c : UInt8) : List UInt8 := if c == 92 then [92, 92] else if c == 34 then [92, 34] else if c == 35 then [92, 35] else if c == 10 then [92, 110] else if c == 0 then [92, 48] else [c]
theorem quote_eq (s : List UInt8) : g1 0 [92, 48] (g1 10 [92, 110] (g1 35 [92, 35] (g1 34 [92, 34] (g1 92 [92, 92] s)))) = s.flatMap qt := by
  induction s with
  | nil => rfl
  | cons c r ih =>
    have e : ∀ (a : UInt8) (new : List UInt8) (x : UInt8) (l : List UInt8), g1 a new (x :: l) = (if x == a then new else [x]) ++ g1 a new l := fun a new x l => by simp [g1]
    rw [List.flatMap_cons, ← ih, e]
    simp only [g1_app]
    congr 1
    unfold qt
    by_cases h1 : c = 92
    · subst h1; decide
    by_cases h2 : c = 34
    · subst h2; decide
    by_cases h3 : c = 35
    · subst h3; decide
    by_cases h4 : c = 10
    · subst h4; decide
    by_cases h5 : c = 0
    · subst h5; decide
    simp [g1, h1, h2, h3, h4, h5]
/-- A byte for html. -/
def ht (c : UInt8) : List UInt8 := if c == 38 then [38, 97, 109, 112, 59] else if c == 60 then [38, 108, 116, 59] else if c == 62 then [38, 103, 116, 59] else if c == 34 then [38, 113, 117, 111, 116, 59] else if c == 39 then [38, 35, 51, 57, 59] else [c]
theorem html_eq (s : List UInt8) : g1 39 [38, 35, 51, 57, 59] (g1 34 [38, 113, 117, 111, 116, 59] (g1 62 [38, 103, 116, 59] (g1 60 [38, 108, 116, 59] (g1 38 [38, 97, 109, 112, 59] s)))) = s.flatMap ht := by
  induction s with
  | nil => rfl
  | cons c r ih =>
    have e : ∀ (a : UInt8) (new : List UInt8) (x : UInt8) (l : List UInt8), g1 a new (x :: l) = (if x == a then new else [x]) ++ g1 a new l := fun a new x l => by simp [g1]
    rw [List.flatMap_cons, ← ih, e]
    simp only [g1_app]
    congr 1
    unfold ht
    by_cases h1 : c = 38
    · subst h1; decide
    by_cases h2 : c = 60
    · subst h2; decide
    by_cases h3 : c = 62
    · subst h3; decide
    by_cases h4 : c = 34
    · subst h4; decide
    by_cases h5 : c = 39
    · subst h5; decide
    simp [g1, h1, h2, h3, h4, h5]
theorem quote_le (s : List UInt8) : (g1 92 [92, 92] s).length ≤ 6 * s.length ∧ (g1 34 [92, 34] (g1 92 [92, 92] s)).length ≤ 6 * s.length ∧ (g1 35 [92, 35] (g1 34 [92, 34] (g1 92 [92, 92] s))).length ≤ 6 * s.length ∧ (g1 10 [92, 110] (g1 35 [92, 35] (g1 34 [92, 34] (g1 92 [92, 92] s)))).length ≤ 6 * s.length := by
  rw [g1_self 92 [92, 92] s]
  simp only [g1_flat]
  refine ⟨flat_le ?_ s, flat_le ?_ s, flat_le ?_ s, flat_le ?_ s⟩
  all_goals
    intro c
    by_cases h1 : c = 92
    · subst h1; decide
    by_cases h2 : c = 34
    · subst h2; decide
    by_cases h3 : c = 35
    · subst h3; decide
    by_cases h4 : c = 10
    · subst h4; decide
    simp [g1, h1, h2, h3, h4]
theorem html_le (s : List UInt8) : (g1 38 [38, 97, 109, 112, 59] s).length ≤ 6 * s.length ∧ (g1 60 [38, 108, 116, 59] (g1 38 [38, 97, 109, 112, 59] s)).length ≤ 6 * s.length ∧ (g1 62 [38, 103, 116, 59] (g1 60 [38, 108, 116, 59] (g1 38 [38, 97, 109, 112, 59] s))).length ≤ 6 * s.length ∧
    (g1 34 [38, 113, 117, 111, 116, 59] (g1 62 [38, 103, 116, 59] (g1 60 [38, 108, 116, 59] (g1 38 [38, 97, 109, 112, 59] s)))).length ≤ 6 * s.length := by
  rw [g1_self 38 [38, 97, 109, 112, 59] s]
  simp only [g1_flat]
  refine ⟨flat_le ?_ s, flat_le ?_ s, flat_le ?_ s, flat_le ?_ s⟩
  all_goals
    intro c
    by_cases h1 : c = 38
    · subst h1; decide
    by_cases h2 : c = 60
    · subst h2; decide
    by_cases h3 : c = 62
    · subst h3; decide
    by_cases h4 : c = 34
    · subst h4; decide
    simp [g1, h1, h2, h3, h4]
theorem Quote_c (s : List UInt8) (hs : s.length ≤ 160000) : ∀ H, (∀ w, Facts H w → MaxF w) → SpecH Tryz.prog 46 (pvs [.string (bs s)]) H (Ret (.string (bs (s.flatMap qt))) H) := by
  refine factC hm Tryz.func46 (by kernel_rfl) rfl rfl ?_
  obtain ⟨l1, l2, l3, l4⟩ := quote_le s
  rw [← quote_eq]
  (((conv => whnf); (repeat ((first | refine BoxN.own ?_ | refine VrN.norm (wrap_i64 (by omega)) ?_ | refine VrN.keep ?_ | refine DrawN.calm (by decide +kernel) ?_ | refine Nd.mk (by decide +kernel) ?_ | refine Nd.mk (by omega) ?_ | (refine Nd.mk ?_ ?_; focus ((repeat' (first | exact trivial | exact wkE_refl _ | refine And.intro ?_ ?_)); done)) | refine RdN.intro _ rfl (by rfl) ?_); (conv => whnf)))); first | refine call1 (Repl1_c 92 [92, 92] s (by decide) (by decide) (by omega) _ fun w hw => hw.1) ?_ | refine callQ (Repl1_c 92 [92, 92] s (by decide) (by decide) (by omega) _ fun w hw => hw.1) ?_)
  (((conv => whnf); (repeat ((first | refine BoxN.own ?_ | refine VrN.norm (wrap_i64 (by omega)) ?_ | refine VrN.keep ?_ | refine DrawN.calm (by decide +kernel) ?_ | refine Nd.mk (by decide +kernel) ?_ | refine Nd.mk (by omega) ?_ | (refine Nd.mk ?_ ?_; focus ((repeat' (first | exact trivial | exact wkE_refl _ | refine And.intro ?_ ?_)); done)) | refine RdN.intro _ rfl (by rfl) ?_); (conv => whnf)))); first | refine call1 (Repl1_c 34 [92, 34] _ (by decide) (by decide) (by omega) _ fun w hw => hw.1) ?_ | refine callQ (Repl1_c 34 [92, 34] _ (by decide) (by decide) (by omega) _ fun w hw => hw.1) ?_)
  (((conv => whnf); (repeat ((first | refine BoxN.own ?_ | refine VrN.norm (wrap_i64 (by omega)) ?_ | refine VrN.keep ?_ | refine DrawN.calm (by decide +kernel) ?_ | refine Nd.mk (by decide +kernel) ?_ | refine Nd.mk (by omega) ?_ | (refine Nd.mk ?_ ?_; focus ((repeat' (first | exact trivial | exact wkE_refl _ | refine And.intro ?_ ?_)); done)) | refine RdN.intro _ rfl (by rfl) ?_); (conv => whnf)))); first | refine call1 (Repl1_c 35 [92, 35] _ (by decide) (by decide) (by omega) _ fun w hw => hw.1) ?_ | refine callQ (Repl1_c 35 [92, 35] _ (by decide) (by decide) (by omega) _ fun w hw => hw.1) ?_)
  (((conv => whnf); (repeat ((first | refine BoxN.own ?_ | refine VrN.norm (wrap_i64 (by omega)) ?_ | refine VrN.keep ?_ | refine DrawN.calm (by decide +kernel) ?_ | refine Nd.mk (by decide +kernel) ?_ | refine Nd.mk (by omega) ?_ | (refine Nd.mk ?_ ?_; focus ((repeat' (first | exact trivial | exact wkE_refl _ | refine And.intro ?_ ?_)); done)) | refine RdN.intro _ rfl (by rfl) ?_); (conv => whnf)))); first | refine call1 (Repl1_c 10 [92, 110] _ (by decide) (by decide) (by omega) _ fun w hw => hw.1) ?_ | refine callQ (Repl1_c 10 [92, 110] _ (by decide) (by decide) (by omega) _ fun w hw => hw.1) ?_)
  (((conv => whnf); (repeat ((first | refine BoxN.own ?_ | refine VrN.norm (wrap_i64 (by omega)) ?_ | refine VrN.keep ?_ | refine DrawN.calm (by decide +kernel) ?_ | refine Nd.mk (by decide +kernel) ?_ | refine Nd.mk (by omega) ?_ | (refine Nd.mk ?_ ?_; focus ((repeat' (first | exact trivial | exact wkE_refl _ | refine And.intro ?_ ?_)); done)) | refine RdN.intro _ rfl (by rfl) ?_); (conv => whnf)))); first | refine call1 (Repl1_c 0 [92, 48] _ (by decide) (by decide) (by omega) _ fun w hw => hw.1) ?_ | refine callQ (Repl1_c 0 [92, 48] _ (by decide) (by decide) (by omega) _ fun w hw => hw.1) ?_)
  ((conv => whnf); (repeat ((first | refine BoxN.own ?_ | refine VrN.norm (wrap_i64 (by omega)) ?_ | refine VrN.keep ?_ | refine DrawN.calm (by decide +kernel) ?_ | refine Nd.mk (by decide +kernel) ?_ | refine Nd.mk (by omega) ?_ | (refine Nd.mk ?_ ?_; focus ((repeat' (first | exact trivial | exact wkE_refl _ | refine And.intro ?_ ?_)); done)) | refine RdN.intro _ rfl (by rfl) ?_); (conv => whnf))))
theorem RHtml_c (s : List UInt8) (hs : s.length ≤ 100000) : ∀ H, (∀ w, Facts H w → MaxF w) → SpecH Tryz.prog 12 (pvs [.string (bs s)]) H (Ret (.string (bs (s.flatMap ht))) H) := by
  refine factC hm Tryz.func12 (by kernel_rfl) rfl rfl ?_
  obtain ⟨l1, l2, l3, l4⟩ := html_le s
  rw [← html_eq]
  (((conv => whnf); (repeat ((first | refine BoxN.own ?_ | refine VrN.norm (wrap_i64 (by omega)) ?_ | refine VrN.keep ?_ | refine DrawN.calm (by decide +kernel) ?_ | refine Nd.mk (by decide +kernel) ?_ | refine Nd.mk (by omega) ?_ | (refine Nd.mk ?_ ?_; focus ((repeat' (first | exact trivial | exact wkE_refl _ | refine And.intro ?_ ?_)); done)) | refine RdN.intro _ rfl (by rfl) ?_); (conv => whnf)))); first | refine call1 (Repl1_c 38 [38, 97, 109, 112, 59] s (by decide) (by decide) (by omega) _ fun w hw => hw.1) ?_ | refine callQ (Repl1_c 38 [38, 97, 109, 112, 59] s (by decide) (by decide) (by omega) _ fun w hw => hw.1) ?_)
  (((conv => whnf); (repeat ((first | refine BoxN.own ?_ | refine VrN.norm (wrap_i64 (by omega)) ?_ | refine VrN.keep ?_ | refine DrawN.calm (by decide +kernel) ?_ | refine Nd.mk (by decide +kernel) ?_ | refine Nd.mk (by omega) ?_ | (refine Nd.mk ?_ ?_; focus ((repeat' (first | exact trivial | exact wkE_refl _ | refine And.intro ?_ ?_)); done)) | refine RdN.intro _ rfl (by rfl) ?_); (conv => whnf)))); first | refine call1 (Repl1_c 60 [38, 108, 116, 59] _ (by decide) (by decide) (by omega) _ fun w hw => hw.1) ?_ | refine callQ (Repl1_c 60 [38, 108, 116, 59] _ (by decide) (by decide) (by omega) _ fun w hw => hw.1) ?_)
  (((conv => whnf); (repeat ((first | refine BoxN.own ?_ | refine VrN.norm (wrap_i64 (by omega)) ?_ | refine VrN.keep ?_ | refine DrawN.calm (by decide +kernel) ?_ | refine Nd.mk (by decide +kernel) ?_ | refine Nd.mk (by omega) ?_ | (refine Nd.mk ?_ ?_; focus ((repeat' (first | exact trivial | exact wkE_refl _ | refine And.intro ?_ ?_)); done)) | refine RdN.intro _ rfl (by rfl) ?_); (conv => whnf)))); first | refine call1 (Repl1_c 62 [38, 103, 116, 59] _ (by decide) (by decide) (by omega) _ fun w hw => hw.1) ?_ | refine callQ (Repl1_c 62 [38, 103, 116, 59] _ (by decide) (by decide) (by omega) _ fun w hw => hw.1) ?_)
  (((conv => whnf); (repeat ((first | refine BoxN.own ?_ | refine VrN.norm (wrap_i64 (by omega)) ?_ | refine VrN.keep ?_ | refine DrawN.calm (by decide +kernel) ?_ | refine Nd.mk (by decide +kernel) ?_ | refine Nd.mk (by omega) ?_ | (refine Nd.mk ?_ ?_; focus ((repeat' (first | exact trivial | exact wkE_refl _ | refine And.intro ?_ ?_)); done)) | refine RdN.intro _ rfl (by rfl) ?_); (conv => whnf)))); first | refine call1 (Repl1_c 34 [38, 113, 117, 111, 116, 59] _ (by decide) (by decide) (by omega) _ fun w hw => hw.1) ?_ | refine callQ (Repl1_c 34 [38, 113, 117, 111, 116, 59] _ (by decide) (by decide) (by omega) _ fun w hw => hw.1) ?_)
  (((conv => whnf); (repeat ((first | refine BoxN.own ?_ | refine VrN.norm (wrap_i64 (by omega)) ?_ | refine VrN.keep ?_ | refine DrawN.calm (by decide +kernel) ?_ | refine Nd.mk (by decide +kernel) ?_ | refine Nd.mk (by omega) ?_ | (refine Nd.mk ?_ ?_; focus ((repeat' (first | exact trivial | exact wkE_refl _ | refine And.intro ?_ ?_)); done)) | refine RdN.intro _ rfl (by rfl) ?_); (conv => whnf)))); first | refine call1 (Repl1_c 39 [38, 35, 51, 57, 59] _ (by decide) (by decide) (by omega) _ fun w hw => hw.1) ?_ | refine callQ (Repl1_c 39 [38, 35, 51, 57, 59] _ (by decide) (by decide) (by omega) _ fun w hw => hw.1) ?_)
  ((conv => whnf); (repeat ((first | refine BoxN.own ?_ | refine VrN.norm (wrap_i64 (by omega)) ?_ | refine VrN.keep ?_ | refine DrawN.calm (by decide +kernel) ?_ | refine Nd.mk (by decide +kernel) ?_ | refine Nd.mk (by omega) ?_ | (refine Nd.mk ?_ ?_; focus ((repeat' (first | exact trivial | exact wkE_refl _ | refine And.intro ?_ ?_)); done)) | refine RdN.intro _ rfl (by rfl) ?_); (conv => whnf))))
end Go.Proofs.YtfcjgklghgpddaaGreatDoor

/-
  The table of bytes that are replaced, as it is filled.
-/
namespace Go.Proofs.YtfcjgklghgpddaaGreatDoor
open Go.AX Go.RowKit
set_option maxRecDepth 20000

/-- The texts of bytes and what replaces them. -/
def olnw (f : UInt8 → List UInt8) : List UInt8 → List Value
  | [] => []
  | c :: l => .string (bs [c]) :: .string (bs (f c)) :: olnw f l
/-- The bytes that are replaced, from the back. -/
def htL : List UInt8 := [39, 34, 62, 60, 38]
def qtL : List UInt8 := [0, 10, 35, 34, 92]
def tab0 (t : Nat) : List Value := List.replicate 256 (.slice none 0 0) ++ [.slice (some ⟨t, 0, none⟩) 0 5]
def tabL (T : List Value) : List (Nat × Value × Value) → List Value
  | [] => T
  | (o, v, w) :: l => tabL ((T.set 256 v).set o w) l
theorem tabL_len : ∀ (l : List (Nat × Value × Value)) (T : List Value), (tabL T l).length = T.length
  | [], _ => rfl
  | (o, v, w) :: l, T => by rw [tabL, tabL_len l]; simp
theorem tabL_other {c : Nat} (hc : c ≠ 256) : ∀ (l : List (Nat × Value × Value)) (T : List Value), c ∉ l.map (·.1) → (tabL T l)[c]? = T[c]?
  | [], _, _ => rfl
  | (o, v, w) :: l, T, h => by
    simp only [List.map_cons, List.mem_cons, not_or] at h
    rw [tabL, tabL_other hc l _ h.2, List.getElem?_set_ne (Ne.symm h.1), List.getElem?_set_ne (Ne.symm hc)]
theorem tabL_mem {c : Nat} {w : Value} (hc : c < 256) : ∀ (l : List (Nat × Value × Value)) (T : List Value), T.length = 257 → (l.map (·.1)).Nodup → (∃ v, (c, v, w) ∈ l) → (tabL T l)[c]? = some w
  | [], _, _, _, h => by obtain ⟨_, h⟩ := h; cases h
  | (o, v, x) :: l, T, hT, hn, h => by
    simp only [List.map_cons, List.nodup_cons] at hn
    obtain ⟨u, hu⟩ := h
    rcases List.mem_cons.1 hu with h | h
    · cases h
      rw [tabL, tabL_other (by omega) l _ hn.1, List.getElem?_set_self (by simp; omega)]
    · rw [tabL]
      exact tabL_mem hc l _ (by simp [hT]) hn.2 ⟨u, h⟩
theorem tabL_last {o : Nat} {v w : Value} (ho : o ≠ 256) : ∀ (l : List (Nat × Value × Value)) (T : List Value), T.length = 257 → (tabL T (l ++ [(o, v, w)]))[256]? = some v
  | [], T, hT => by
    show ((T.set 256 v).set o w)[256]? = some v
    rw [List.getElem?_set_ne ho, List.getElem?_set_self (by omega)]
  | (o', v', w') :: l, T, hT => by
    show (tabL _ (l ++ [(o, v, w)]))[256]? = some v
    exact tabL_last ho l _ (by simp [hT])
theorem tab0_len (t : Nat) : (tab0 t).length = 257 := by simp [tab0]
theorem tab0_get (t : Nat) {c : Nat} (h : c < 256) : (tab0 t)[c]? = some (.slice none 0 0) := by
  rw [tab0, List.getElem?_append_left (by simpa using h), List.getElem?_replicate, if_pos h]
/-- The rounds: the byte, the block and the room of the list of bytes, the block and the room of the text. -/
def rdL (f : UInt8 → List UInt8) : Nat → List (UInt8 × Nat × Nat × Nat × Nat) → List (Nat × Value × Value)
  | _, [] => []
  | j, (o, t, k, n, c) :: l => (o.toNat, .slice (some ⟨t, 0, none⟩) (j + 1) k, .slice (some ⟨n, 0, none⟩) (f o).length c) :: rdL f (j + 1) l
theorem rdL_keys (f : UInt8 → List UInt8) : ∀ (l : List (UInt8 × Nat × Nat × Nat × Nat)) (j : Nat), (rdL f j l).map (·.1) = l.map fun r => r.1.toNat
  | [], _ => rfl
  | (o, t, k, n, c) :: l, j => by simp [rdL, rdL_keys f l]
theorem rdL_mem (f : UInt8 → List UInt8) {o : UInt8} {t k n c : Nat} : ∀ (l : List (UInt8 × Nat × Nat × Nat × Nat)) (j : Nat), (o, t, k, n, c) ∈ l → ∃ v, (o.toNat, v, .slice (some ⟨n, 0, none⟩) (f o).length c) ∈ rdL f j l
  | [], _, h => by cases h
  | r :: l, j, h => by
    obtain ⟨o', t', k', n', c'⟩ := r
    rcases List.mem_cons.1 h with h | h
    · cases h
      exact ⟨_, List.mem_cons_self ..⟩
    · obtain ⟨v, hv⟩ := rdL_mem f l (j + 1) h
      exact ⟨v, List.mem_cons_of_mem _ hv⟩
theorem rdL_app (f : UInt8 → List UInt8) (r : UInt8 × Nat × Nat × Nat × Nat) : ∀ (l : List (UInt8 × Nat × Nat × Nat × Nat)) (j : Nat), rdL f j (l ++ [r]) = rdL f j l ++ [(r.1.toNat, .slice (some ⟨r.2.1, 0, none⟩) (j + l.length + 1) r.2.2.1, .slice (some ⟨r.2.2.2.1, 0, none⟩) (f r.1).length r.2.2.2.2)]
  | [], j => rfl
  | (o, t, k, n, c) :: l, j => by simp [rdL, rdL_app f r l (j + 1)]; omega
theorem rounds_cell (f : UInt8 → List UInt8) (l : List (UInt8 × Nat × Nat × Nat × Nat)) (hn : (l.map (·.1)).Nodup) (t0 : Nat) (c : UInt8) : (c ∉ l.map (·.1) ∧ (tabL (tab0 t0) (rdL f 0 l))[c.toNat]? = some (.slice none 0 0)) ∨ ∃ t k n cap, (c, t, k, n, cap) ∈ l ∧ (tabL (tab0 t0) (rdL f 0 l))[c.toNat]? = some (.slice (some ⟨n, 0, none⟩) (f c).length cap) := by
  have hc := c.toNat_lt
  by_cases h : c ∈ l.map (·.1)
  · obtain ⟨⟨o, t, k, n, cap⟩, hr, rfl⟩ := List.mem_map.1 h
    refine .inr ⟨t, k, n, cap, hr, tabL_mem (by omega) _ _ (tab0_len t0) ?_ (rdL_mem f l 0 hr)⟩
    rw [rdL_keys]
    have : (l.map fun r => r.1.toNat) = (l.map (·.1)).map UInt8.toNat := by simp
    rw [this]
    exact List.Pairwise.map UInt8.toNat (fun a b h h2 => h (UInt8.toNat_inj.1 h2)) hn
  · refine .inl ⟨h, ?_⟩
    rw [tabL_other (by omega), tab0_get t0 (by omega)]
    rw [rdL_keys]
    intro h2
    obtain ⟨r, hr, he⟩ := List.mem_map.1 h2
    exact h (List.mem_map.2 ⟨r, hr, UInt8.toNat_inj.1 he⟩)
theorem rounds_ok (f : UInt8 → List UInt8) (l : List (UInt8 × Nat × Nat × Nat × Nat)) (r : UInt8 × Nat × Nat × Nat × Nat) (hn : ((l ++ [r]).map (·.1)).Nodup) (t0 tb : Nat) (hf : ∀ c, c ∉ (l ++ [r]).map (·.1) → f c = [c]) (hs : ∀ c, 1 ≤ (f c).length ∧ (f c).length ≤ 6) (hl : l.length ≤ 15) :
    TblOk f ((l ++ [r]).map (·.1)) ⟨tb, tabL (tab0 t0) (rdL f 0 (l ++ [r])), some ⟨r.2.1, 0, none⟩, r.2.2.1⟩ := by
  refine ⟨by rw [tabL_len, tab0_len], ?_, rfl, fun c => ?_, hn, hs, by simp; omega⟩
  · have := r.1.toNat_lt
    rw [rdL_app, tabL_last (by omega) _ _ (tab0_len t0)]
    simp
  · rcases rounds_cell f (l ++ [r]) hn t0 c with ⟨h1, h2⟩ | ⟨t, k, n, cap, h1, h2⟩
    · exact .inl ⟨h1, hf c h1, h2⟩
    · exact .inr ⟨List.mem_map.2 ⟨_, h1, rfl⟩, _, _, h2⟩
theorem rounds_fact (f : UInt8 → List UInt8) (l : List (UInt8 × Nat × Nat × Nat × Nat)) (hn : (l.map (·.1)).Nodup) (t0 : Nat) {w : World} (h : ∀ o t k n cap, (o, t, k, n, cap) ∈ l → SlAt (some ⟨n, 0, none⟩) (f o).length (u8s (f o)) w) :
    ∀ c : UInt8, ∀ a cap, (tabL (tab0 t0) (rdL f 0 l))[c.toNat]? = some (.slice (some a) (f c).length cap) → SlAt (some a) (f c).length (u8s (f c)) w := by
  intro c a cap hc
  rcases rounds_cell f l hn t0 c with ⟨_, h2⟩ | ⟨t, k, n, cap', h1, h2⟩
  · rw [h2] at hc; cases hc
  · rw [h2] at hc
    cases hc
    exact h c t k n _ h1
end Go.Proofs.YtfcjgklghgpddaaGreatDoor

/-
  Contract: (*strings.Replacer).Replace, for the first time.
-/
namespace Go.Proofs.YtfcjgklghgpddaaGreatDoor
open Go.AX Go.RowKit
set_option maxRecDepth 20000

theorem ht_len (c : UInt8) : 1 ≤ (ht c).length ∧ (ht c).length ≤ 6 := by
  unfold ht
  split
  · decide
  split
  · decide
  split
  · decide
  split
  · decide
  split
  · decide
  exact ⟨Nat.le_refl 1, Nat.le_of_ble_eq_true rfl⟩
theorem ht_other (c : UInt8) (h : c ∉ htL) : ht c = [c] := by
  simp only [htL, List.mem_cons, List.not_mem_nil, or_false, not_or] at h
  unfold ht
  simp [h]
theorem qt_len (c : UInt8) : 1 ≤ (qt c).length ∧ (qt c).length ≤ 6 := by
  unfold qt
  split
  · decide
  split
  · decide
  split
  · decide
  split
  · decide
  split
  · decide
  exact ⟨Nat.le_refl 1, Nat.le_of_ble_eq_true rfl⟩
theorem qt_other (c : UInt8) (h : c ∉ qtL) : qt c = [c] := by
  simp only [qtL, List.mem_cons, List.not_mem_nil, or_false, not_or] at h
  unfold qt
  simp [h]
set_option maxHeartbeats 4000000 in
theorem first_ht (s : List UInt8) (b c k : Nat) (hs : s.length ≤ 1000000) : SpecH Tryz.prog 21 (pvs [.pointer (some ⟨b, 0, none⟩), .string (bs s)]) [.app 9 1 (olnw ht htL.reverse) (some ⟨c, 0, none⟩) 10 k, .app 82 5 (replC 0 0 .nilIface (some ⟨c, 0, none⟩) 10 k) (some ⟨b, 0, none⟩) 1 1]
    (RetG (TblOk ht htL) (fun _ => .string (bs (s.flatMap ht))) fun d => [.dead, .fact fun w => SlAt (some ⟨b, 0, none⟩) 5 (replC 1 0 (.iface 127 (.pointer (some ⟨d.b, 0, none⟩))) none 0 0) w ∧ TblF ht htL d w]) := by
  refine SpecH.seal (fun _ _ => Nat.le_refl _) ?_
  refine spec_of_exec hm Tryz.func21 (by kernel_rfl) rfl rfl ?_
  ((conv => whnf); (repeat ((first | refine BoxN.own ?_ | refine VrN.norm (wrap_i64 (by omega)) ?_ | refine VrN.keep ?_ | refine DrawN.calm (by decide +kernel) ?_ | refine Nd.mk (by decide +kernel) ?_ | refine Nd.mk (by omega) ?_ | (refine Nd.mk ?_ ?_; focus ((repeat' (first | exact trivial | exact wkE_refl _ | refine And.intro ?_ ?_)); done)) | refine RdN.intro _ rfl (by rfl) ?_); (conv => whnf))))
  refine SpecH.args (args' := pvs [.pointer (some ⟨b, 0, none⟩), .func (.func 38) #[.pointer (some ⟨b, 0, none⟩)] #[]]) (by simp [pvs, opvs, opv, nth, plainEv]; rfl) ?_
  refine SpecH.once (P := Tryz.prog) (fd := 37) (fb := 38) (p := .pointer (some ⟨b, 0, none⟩)) (T := 82) (m := 5) (b := b) (xs := replC 0 0 .nilIface (some ⟨c, 0, none⟩) 10 k) (H := [.app 9 1 (olnw ht htL.reverse) (some ⟨c, 0, none⟩) 10 k, .app 82 5 (replC 0 0 .nilIface (some ⟨c, 0, none⟩) 10 k) (some ⟨b, 0, none⟩) 1 1]) (callOk Tryz.func37 (by kernel_rfl) rfl) 1 rfl rfl rfl (fun Q w => do_first b 0 _ Q w) ?_
  refine spec_of_exec hm Tryz.func38 (by kernel_rfl) rfl rfl ?_
  ((conv => whnf); (repeat ((first | refine BoxN.own ?_ | refine VrN.norm (wrap_i64 (by omega)) ?_ | refine VrN.keep ?_ | refine DrawN.calm (by decide +kernel) ?_ | refine Nd.mk (by decide +kernel) ?_ | refine Nd.mk (by omega) ?_ | (refine Nd.mk ?_ ?_; focus ((repeat' (first | exact trivial | exact wkE_refl _ | refine And.intro ?_ ?_)); done)) | refine RdN.intro _ rfl (by rfl) ?_); (conv => whnf))))
  refine spec_of_exec hm Tryz.func61 (by kernel_rfl) rfl rfl ?_
  ((conv => whnf); (repeat ((first | refine BoxN.own ?_ | refine VrN.norm (wrap_i64 (by omega)) ?_ | refine VrN.keep ?_ | refine DrawN.calm (by decide +kernel) ?_ | refine Nd.mk (by decide +kernel) ?_ | refine Nd.mk (by omega) ?_ | (refine Nd.mk ?_ ?_; focus ((repeat' (first | exact trivial | exact wkE_refl _ | refine And.intro ?_ ?_)); done)) | refine RdN.intro _ rfl (by rfl) ?_); (conv => whnf))))
  refine LdN.one (a := some ⟨b, 0, none⟩) (q := 4) (.slice (some ⟨c, 0, none⟩) 10 k) rfl (fun w hw => hw.2.1) rfl ?_
  ((conv => whnf); (repeat ((first | refine BoxN.own ?_ | refine VrN.norm (wrap_i64 (by omega)) ?_ | refine VrN.keep ?_ | refine DrawN.calm (by decide +kernel) ?_ | refine Nd.mk (by decide +kernel) ?_ | refine Nd.mk (by omega) ?_ | (refine Nd.mk ?_ ?_; focus ((repeat' (first | exact trivial | exact wkE_refl _ | refine And.intro ?_ ?_)); done)) | refine RdN.intro _ rfl (by rfl) ?_); (conv => whnf))))
  refine LoopN.unroll 6 ?_
  ((conv => whnf); (repeat ((first | refine VrN.norm (wrap_i64 (by omega)) ?_ | refine VrN.keep ?_ | refine Nd.mk (by decide +kernel) ?_ | refine Nd.mk (by omega) ?_ | refine Nd.mk ⟨rfl, by decide +kernel, by decide +kernel⟩ ?_ | refine LdN.one _ rfl (fun w hw => hw.1) rfl ?_); (conv => whnf))))
  refine EffW.mkEmpty 5 rfl Tryz.underlying63 rfl rfl rfl rfl (by decide +kernel) fun t => ?_
  ((conv => whnf); (repeat ((first | refine VrN.norm (wrap_i64 (by omega)) ?_ | refine VrN.keep ?_ | refine Nd.mk (by decide +kernel) ?_ | refine Nd.mk (by omega) ?_ | refine Nd.mk ⟨rfl, by decide +kernel, by decide +kernel⟩ ?_ | refine LdN.one _ rfl (fun w hw => hw.1) rfl ?_); (conv => whnf))))
  refine BoxN.known _ rfl fun tb => ?_
  ((conv => whnf); (repeat ((first | refine VrN.norm (wrap_i64 (by omega)) ?_ | refine VrN.keep ?_ | refine Nd.mk (by decide +kernel) ?_ | refine Nd.mk (by omega) ?_ | refine Nd.mk ⟨rfl, by decide +kernel, by decide +kernel⟩ ?_ | refine LdN.one _ rfl (fun w hw => hw.1) rfl ?_); (conv => whnf))))
  refine EffW.appTo (i := 3) (q := 0) (tab0 t) 257 rfl rfl rfl rfl rfl rfl rfl (Nat.le_of_ble_eq_true rfl) rfl rfl ?_
  ((conv => whnf); (repeat ((first | refine VrN.norm (wrap_i64 (by omega)) ?_ | refine VrN.keep ?_ | refine Nd.mk (by decide +kernel) ?_ | refine Nd.mk (by omega) ?_ | refine Nd.mk ⟨rfl, by decide +kernel, by decide +kernel⟩ ?_ | refine LdN.one _ rfl (fun w hw => hw.1) rfl ?_); (conv => whnf))))
  refine LoopN.unroll 6 ?_
  ((conv => whnf); (repeat ((first | refine VrN.norm (wrap_i64 (by omega)) ?_ | refine VrN.keep ?_ | refine Nd.mk (by decide +kernel) ?_ | refine Nd.mk (by omega) ?_ | refine Nd.mk ⟨rfl, by decide +kernel, by decide +kernel⟩ ?_ | refine LdN.one _ rfl (fun w hw => hw.1) rfl ?_); (conv => whnf))))
  refine LdN.fld (a := some ⟨tb, 0, none⟩) (q := 0) _ rfl (fun w hw => hw.2.2.2.1) rfl ?_
  ((conv => whnf); (repeat ((first | refine VrN.norm (wrap_i64 (by omega)) ?_ | refine VrN.keep ?_ | refine Nd.mk (by decide +kernel) ?_ | refine Nd.mk (by omega) ?_ | refine Nd.mk ⟨rfl, by decide +kernel, by decide +kernel⟩ ?_ | refine LdN.one _ rfl (fun w hw => hw.1) rfl ?_); (conv => whnf))))
  refine LdN.fld (a := some ⟨tb, 0, none⟩) (q := 0) _ rfl (fun w hw => hw.2.2.2.1) rfl ?_
  ((conv => whnf); (repeat ((first | refine VrN.norm (wrap_i64 (by omega)) ?_ | refine VrN.keep ?_ | refine Nd.mk (by decide +kernel) ?_ | refine Nd.mk (by omega) ?_ | refine Nd.mk ⟨rfl, by decide +kernel, by decide +kernel⟩ ?_ | refine LdN.one _ rfl (fun w hw => hw.1) rfl ?_); (conv => whnf))))
  refine ReadW.bytesOwn [39] rfl rfl Tryz.underlying22 Tryz.underlying5 Tryz.underlying9 rfl rfl ?_
  ((conv => whnf); (repeat ((first | refine VrN.norm (wrap_i64 (by omega)) ?_ | refine VrN.keep ?_ | refine Nd.mk (by decide +kernel) ?_ | refine Nd.mk (by omega) ?_ | refine Nd.mk ⟨rfl, by decide +kernel, by decide +kernel⟩ ?_ | refine LdN.one _ rfl (fun w hw => hw.1) rfl ?_); (conv => whnf))))
  refine AppN.grow 2 _ _ rfl rfl ⟨by decide, ⟨Nat.le_of_ble_eq_true rfl, by omega⟩, Nat.one_ne_zero⟩ fun t1 k1 h1 h1' => ?_
  ((conv => whnf); (repeat ((first | refine VrN.norm (wrap_i64 (by omega)) ?_ | refine VrN.keep ?_ | refine Nd.mk (by decide +kernel) ?_ | refine Nd.mk (by omega) ?_ | refine Nd.mk ⟨rfl, by decide +kernel, by decide +kernel⟩ ?_ | refine LdN.one _ rfl (fun w hw => hw.1) rfl ?_); (conv => whnf))))
  refine EffW.appTo (i := 3) (q := 256) (ys := [_]) _ 257 rfl rfl rfl rfl rfl rfl rfl (Nat.le_of_ble_eq_true rfl) (put_set _ (by simp [tab0])) rfl ?_
  ((conv => whnf); (repeat ((first | refine VrN.norm (wrap_i64 (by omega)) ?_ | refine VrN.keep ?_ | refine Nd.mk (by decide +kernel) ?_ | refine Nd.mk (by omega) ?_ | refine Nd.mk ⟨rfl, by decide +kernel, by decide +kernel⟩ ?_ | refine LdN.one _ rfl (fun w hw => hw.1) rfl ?_); (conv => whnf))))
  refine EffW.bytesOf _ rfl Tryz.underlying9 Tryz.underlying22 Tryz.underlying5 rfl (by decide) fun n1 c1 g1 g1' => ?_
  ((conv => whnf); (repeat ((first | refine VrN.norm (wrap_i64 (by omega)) ?_ | refine VrN.keep ?_ | refine Nd.mk (by decide +kernel) ?_ | refine Nd.mk (by omega) ?_ | refine Nd.mk ⟨rfl, by decide +kernel, by decide +kernel⟩ ?_ | refine LdN.one _ rfl (fun w hw => hw.1) rfl ?_); (conv => whnf))))
  refine EffW.appTo (i := 3) (q := 39) (ys := [_]) _ 257 rfl rfl rfl rfl rfl rfl rfl (Nat.le_of_ble_eq_true rfl) (put_set _ (by simp [tab0])) rfl ?_
  ((conv => whnf); (repeat ((first | refine VrN.norm (wrap_i64 (by omega)) ?_ | refine VrN.keep ?_ | refine Nd.mk (by decide +kernel) ?_ | refine Nd.mk (by omega) ?_ | refine Nd.mk ⟨rfl, by decide +kernel, by decide +kernel⟩ ?_ | refine LdN.one _ rfl (fun w hw => hw.1) rfl ?_); (conv => whnf))))
  refine LdN.fld (a := some ⟨tb, 0, none⟩) (q := 0) _ rfl (fun w hw => hw.2.2.2.1) rfl ?_
  ((conv => whnf); (repeat ((first | refine VrN.norm (wrap_i64 (by omega)) ?_ | refine VrN.keep ?_ | refine Nd.mk (by decide +kernel) ?_ | refine Nd.mk (by omega) ?_ | refine Nd.mk ⟨rfl, by decide +kernel, by decide +kernel⟩ ?_ | refine LdN.one _ rfl (fun w hw => hw.1) rfl ?_); (conv => whnf))))
  refine LdN.fld (a := some ⟨tb, 0, none⟩) (q := 0) _ rfl (fun w hw => hw.2.2.2.1) rfl ?_
  ((conv => whnf); (repeat ((first | refine VrN.norm (wrap_i64 (by omega)) ?_ | refine VrN.keep ?_ | refine Nd.mk (by decide +kernel) ?_ | refine Nd.mk (by omega) ?_ | refine Nd.mk ⟨rfl, by decide +kernel, by decide +kernel⟩ ?_ | refine LdN.one _ rfl (fun w hw => hw.1) rfl ?_); (conv => whnf))))
  refine ReadW.bytesOwn [34] rfl rfl Tryz.underlying22 Tryz.underlying5 Tryz.underlying9 rfl rfl ?_
  ((conv => whnf); (repeat ((first | refine VrN.norm (wrap_i64 (by omega)) ?_ | refine VrN.keep ?_ | refine Nd.mk (by decide +kernel) ?_ | refine Nd.mk (by omega) ?_ | refine Nd.mk ⟨rfl, by decide +kernel, by decide +kernel⟩ ?_ | refine LdN.one _ rfl (fun w hw => hw.1) rfl ?_); (conv => whnf))))
  refine AppN.grow 2 _ _ rfl rfl ⟨by decide, ⟨Nat.le_of_ble_eq_true rfl, by omega⟩, Nat.one_ne_zero⟩ fun t2 k2 h2 h2' => ?_
  ((conv => whnf); (repeat ((first | refine VrN.norm (wrap_i64 (by omega)) ?_ | refine VrN.keep ?_ | refine Nd.mk (by decide +kernel) ?_ | refine Nd.mk (by omega) ?_ | refine Nd.mk ⟨rfl, by decide +kernel, by decide +kernel⟩ ?_ | refine LdN.one _ rfl (fun w hw => hw.1) rfl ?_); (conv => whnf))))
  refine EffW.appTo (i := 3) (q := 256) (ys := [_]) _ 257 rfl rfl rfl rfl rfl rfl rfl (Nat.le_of_ble_eq_true rfl) (put_set _ (by simp [tab0])) rfl ?_
  ((conv => whnf); (repeat ((first | refine VrN.norm (wrap_i64 (by omega)) ?_ | refine VrN.keep ?_ | refine Nd.mk (by decide +kernel) ?_ | refine Nd.mk (by omega) ?_ | refine Nd.mk ⟨rfl, by decide +kernel, by decide +kernel⟩ ?_ | refine LdN.one _ rfl (fun w hw => hw.1) rfl ?_); (conv => whnf))))
  refine EffW.bytesOf _ rfl Tryz.underlying9 Tryz.underlying22 Tryz.underlying5 rfl (by decide) fun n2 c2 g2 g2' => ?_
  ((conv => whnf); (repeat ((first | refine VrN.norm (wrap_i64 (by omega)) ?_ | refine VrN.keep ?_ | refine Nd.mk (by decide +kernel) ?_ | refine Nd.mk (by omega) ?_ | refine Nd.mk ⟨rfl, by decide +kernel, by decide +kernel⟩ ?_ | refine LdN.one _ rfl (fun w hw => hw.1) rfl ?_); (conv => whnf))))
  refine EffW.appTo (i := 3) (q := 34) (ys := [_]) _ 257 rfl rfl rfl rfl rfl rfl rfl (Nat.le_of_ble_eq_true rfl) (put_set _ (by simp [tab0])) rfl ?_
  ((conv => whnf); (repeat ((first | refine VrN.norm (wrap_i64 (by omega)) ?_ | refine VrN.keep ?_ | refine Nd.mk (by decide +kernel) ?_ | refine Nd.mk (by omega) ?_ | refine Nd.mk ⟨rfl, by decide +kernel, by decide +kernel⟩ ?_ | refine LdN.one _ rfl (fun w hw => hw.1) rfl ?_); (conv => whnf))))
  refine LdN.fld (a := some ⟨tb, 0, none⟩) (q := 0) _ rfl (fun w hw => hw.2.2.2.1) rfl ?_
  ((conv => whnf); (repeat ((first | refine VrN.norm (wrap_i64 (by omega)) ?_ | refine VrN.keep ?_ | refine Nd.mk (by decide +kernel) ?_ | refine Nd.mk (by omega) ?_ | refine Nd.mk ⟨rfl, by decide +kernel, by decide +kernel⟩ ?_ | refine LdN.one _ rfl (fun w hw => hw.1) rfl ?_); (conv => whnf))))
  refine LdN.fld (a := some ⟨tb, 0, none⟩) (q := 0) _ rfl (fun w hw => hw.2.2.2.1) rfl ?_
  ((conv => whnf); (repeat ((first | refine VrN.norm (wrap_i64 (by omega)) ?_ | refine VrN.keep ?_ | refine Nd.mk (by decide +kernel) ?_ | refine Nd.mk (by omega) ?_ | refine Nd.mk ⟨rfl, by decide +kernel, by decide +kernel⟩ ?_ | refine LdN.one _ rfl (fun w hw => hw.1) rfl ?_); (conv => whnf))))
  refine ReadW.bytesOwn [62] rfl rfl Tryz.underlying22 Tryz.underlying5 Tryz.underlying9 rfl rfl ?_
  ((conv => whnf); (repeat ((first | refine VrN.norm (wrap_i64 (by omega)) ?_ | refine VrN.keep ?_ | refine Nd.mk (by decide +kernel) ?_ | refine Nd.mk (by omega) ?_ | refine Nd.mk ⟨rfl, by decide +kernel, by decide +kernel⟩ ?_ | refine LdN.one _ rfl (fun w hw => hw.1) rfl ?_); (conv => whnf))))
  refine AppN.grow 2 _ _ rfl rfl ⟨by decide, ⟨Nat.le_of_ble_eq_true rfl, by omega⟩, Nat.one_ne_zero⟩ fun t3 k3 h3 h3' => ?_
  ((conv => whnf); (repeat ((first | refine VrN.norm (wrap_i64 (by omega)) ?_ | refine VrN.keep ?_ | refine Nd.mk (by decide +kernel) ?_ | refine Nd.mk (by omega) ?_ | refine Nd.mk ⟨rfl, by decide +kernel, by decide +kernel⟩ ?_ | refine LdN.one _ rfl (fun w hw => hw.1) rfl ?_); (conv => whnf))))
  refine EffW.appTo (i := 3) (q := 256) (ys := [_]) _ 257 rfl rfl rfl rfl rfl rfl rfl (Nat.le_of_ble_eq_true rfl) (put_set _ (by simp [tab0])) rfl ?_
  ((conv => whnf); (repeat ((first | refine VrN.norm (wrap_i64 (by omega)) ?_ | refine VrN.keep ?_ | refine Nd.mk (by decide +kernel) ?_ | refine Nd.mk (by omega) ?_ | refine Nd.mk ⟨rfl, by decide +kernel, by decide +kernel⟩ ?_ | refine LdN.one _ rfl (fun w hw => hw.1) rfl ?_); (conv => whnf))))
  refine EffW.bytesOf _ rfl Tryz.underlying9 Tryz.underlying22 Tryz.underlying5 rfl (by decide) fun n3 c3 g3 g3' => ?_
  ((conv => whnf); (repeat ((first | refine VrN.norm (wrap_i64 (by omega)) ?_ | refine VrN.keep ?_ | refine Nd.mk (by decide +kernel) ?_ | refine Nd.mk (by omega) ?_ | refine Nd.mk ⟨rfl, by decide +kernel, by decide +kernel⟩ ?_ | refine LdN.one _ rfl (fun w hw => hw.1) rfl ?_); (conv => whnf))))
  refine EffW.appTo (i := 3) (q := 62) (ys := [_]) _ 257 rfl rfl rfl rfl rfl rfl rfl (Nat.le_of_ble_eq_true rfl) (put_set _ (by simp [tab0])) rfl ?_
  ((conv => whnf); (repeat ((first | refine VrN.norm (wrap_i64 (by omega)) ?_ | refine VrN.keep ?_ | refine Nd.mk (by decide +kernel) ?_ | refine Nd.mk (by omega) ?_ | refine Nd.mk ⟨rfl, by decide +kernel, by decide +kernel⟩ ?_ | refine LdN.one _ rfl (fun w hw => hw.1) rfl ?_); (conv => whnf))))
  refine LdN.fld (a := some ⟨tb, 0, none⟩) (q := 0) _ rfl (fun w hw => hw.2.2.2.1) rfl ?_
  ((conv => whnf); (repeat ((first | refine VrN.norm (wrap_i64 (by omega)) ?_ | refine VrN.keep ?_ | refine Nd.mk (by decide +kernel) ?_ | refine Nd.mk (by omega) ?_ | refine Nd.mk ⟨rfl, by decide +kernel, by decide +kernel⟩ ?_ | refine LdN.one _ rfl (fun w hw => hw.1) rfl ?_); (conv => whnf))))
  refine LdN.fld (a := some ⟨tb, 0, none⟩) (q := 0) _ rfl (fun w hw => hw.2.2.2.1) rfl ?_
  ((conv => whnf); (repeat ((first | refine VrN.norm (wrap_i64 (by omega)) ?_ | refine VrN.keep ?_ | refine Nd.mk (by decide +kernel) ?_ | refine Nd.mk (by omega) ?_ | refine Nd.mk ⟨rfl, by decide +kernel, by decide +kernel⟩ ?_ | refine LdN.one _ rfl (fun w hw => hw.1) rfl ?_); (conv => whnf))))
  refine ReadW.bytesOwn [60] rfl rfl Tryz.underlying22 Tryz.underlying5 Tryz.underlying9 rfl rfl ?_
  ((conv => whnf); (repeat ((first | refine VrN.norm (wrap_i64 (by omega)) ?_ | refine VrN.keep ?_ | refine Nd.mk (by decide +kernel) ?_ | refine Nd.mk (by omega) ?_ | refine Nd.mk ⟨rfl, by decide +kernel, by decide +kernel⟩ ?_ | refine LdN.one _ rfl (fun w hw => hw.1) rfl ?_); (conv => whnf))))
  refine AppN.grow 2 _ _ rfl rfl ⟨by decide, ⟨Nat.le_of_ble_eq_true rfl, by omega⟩, Nat.one_ne_zero⟩ fun t4 k4 h4 h4' => ?_
  ((conv => whnf); (repeat ((first | refine VrN.norm (wrap_i64 (by omega)) ?_ | refine VrN.keep ?_ | refine Nd.mk (by decide +kernel) ?_ | refine Nd.mk (by omega) ?_ | refine Nd.mk ⟨rfl, by decide +kernel, by decide +kernel⟩ ?_ | refine LdN.one _ rfl (fun w hw => hw.1) rfl ?_); (conv => whnf))))
  refine EffW.appTo (i := 3) (q := 256) (ys := [_]) _ 257 rfl rfl rfl rfl rfl rfl rfl (Nat.le_of_ble_eq_true rfl) (put_set _ (by simp [tab0])) rfl ?_
  ((conv => whnf); (repeat ((first | refine VrN.norm (wrap_i64 (by omega)) ?_ | refine VrN.keep ?_ | refine Nd.mk (by decide +kernel) ?_ | refine Nd.mk (by omega) ?_ | refine Nd.mk ⟨rfl, by decide +kernel, by decide +kernel⟩ ?_ | refine LdN.one _ rfl (fun w hw => hw.1) rfl ?_); (conv => whnf))))
  refine EffW.bytesOf _ rfl Tryz.underlying9 Tryz.underlying22 Tryz.underlying5 rfl (by decide) fun n4 c4 g4 g4' => ?_
  ((conv => whnf); (repeat ((first | refine VrN.norm (wrap_i64 (by omega)) ?_ | refine VrN.keep ?_ | refine Nd.mk (by decide +kernel) ?_ | refine Nd.mk (by omega) ?_ | refine Nd.mk ⟨rfl, by decide +kernel, by decide +kernel⟩ ?_ | refine LdN.one _ rfl (fun w hw => hw.1) rfl ?_); (conv => whnf))))
  refine EffW.appTo (i := 3) (q := 60) (ys := [_]) _ 257 rfl rfl rfl rfl rfl rfl rfl (Nat.le_of_ble_eq_true rfl) (put_set _ (by simp [tab0])) rfl ?_
  ((conv => whnf); (repeat ((first | refine VrN.norm (wrap_i64 (by omega)) ?_ | refine VrN.keep ?_ | refine Nd.mk (by decide +kernel) ?_ | refine Nd.mk (by omega) ?_ | refine Nd.mk ⟨rfl, by decide +kernel, by decide +kernel⟩ ?_ | refine LdN.one _ rfl (fun w hw => hw.1) rfl ?_); (conv => whnf))))
  refine LdN.fld (a := some ⟨tb, 0, none⟩) (q := 0) _ rfl (fun w hw => hw.2.2.2.1) rfl ?_
  ((conv => whnf); (repeat ((first | refine VrN.norm (wrap_i64 (by omega)) ?_ | refine VrN.keep ?_ | refine Nd.mk (by decide +kernel) ?_ | refine Nd.mk (by omega) ?_ | refine Nd.mk ⟨rfl, by decide +kernel, by decide +kernel⟩ ?_ | refine LdN.one _ rfl (fun w hw => hw.1) rfl ?_); (conv => whnf))))
  refine LdN.fld (a := some ⟨tb, 0, none⟩) (q := 0) _ rfl (fun w hw => hw.2.2.2.1) rfl ?_
  ((conv => whnf); (repeat ((first | refine VrN.norm (wrap_i64 (by omega)) ?_ | refine VrN.keep ?_ | refine Nd.mk (by decide +kernel) ?_ | refine Nd.mk (by omega) ?_ | refine Nd.mk ⟨rfl, by decide +kernel, by decide +kernel⟩ ?_ | refine LdN.one _ rfl (fun w hw => hw.1) rfl ?_); (conv => whnf))))
  refine ReadW.bytesOwn [38] rfl rfl Tryz.underlying22 Tryz.underlying5 Tryz.underlying9 rfl rfl ?_
  ((conv => whnf); (repeat ((first | refine VrN.norm (wrap_i64 (by omega)) ?_ | refine VrN.keep ?_ | refine Nd.mk (by decide +kernel) ?_ | refine Nd.mk (by omega) ?_ | refine Nd.mk ⟨rfl, by decide +kernel, by decide +kernel⟩ ?_ | refine LdN.one _ rfl (fun w hw => hw.1) rfl ?_); (conv => whnf))))
  refine AppN.grow 2 _ _ rfl rfl ⟨by decide, ⟨Nat.le_of_ble_eq_true rfl, by omega⟩, Nat.one_ne_zero⟩ fun t5 k5 h5 h5' => ?_
  ((conv => whnf); (repeat ((first | refine VrN.norm (wrap_i64 (by omega)) ?_ | refine VrN.keep ?_ | refine Nd.mk (by decide +kernel) ?_ | refine Nd.mk (by omega) ?_ | refine Nd.mk ⟨rfl, by decide +kernel, by decide +kernel⟩ ?_ | refine LdN.one _ rfl (fun w hw => hw.1) rfl ?_); (conv => whnf))))
  refine EffW.appTo (i := 3) (q := 256) (ys := [_]) _ 257 rfl rfl rfl rfl rfl rfl rfl (Nat.le_of_ble_eq_true rfl) (put_set _ (by simp [tab0])) rfl ?_
  ((conv => whnf); (repeat ((first | refine VrN.norm (wrap_i64 (by omega)) ?_ | refine VrN.keep ?_ | refine Nd.mk (by decide +kernel) ?_ | refine Nd.mk (by omega) ?_ | refine Nd.mk ⟨rfl, by decide +kernel, by decide +kernel⟩ ?_ | refine LdN.one _ rfl (fun w hw => hw.1) rfl ?_); (conv => whnf))))
  refine EffW.bytesOf _ rfl Tryz.underlying9 Tryz.underlying22 Tryz.underlying5 rfl (by decide) fun n5 c5 g5 g5' => ?_
  ((conv => whnf); (repeat ((first | refine VrN.norm (wrap_i64 (by omega)) ?_ | refine VrN.keep ?_ | refine Nd.mk (by decide +kernel) ?_ | refine Nd.mk (by omega) ?_ | refine Nd.mk ⟨rfl, by decide +kernel, by decide +kernel⟩ ?_ | refine LdN.one _ rfl (fun w hw => hw.1) rfl ?_); (conv => whnf))))
  refine EffW.appTo (i := 3) (q := 38) (ys := [_]) _ 257 rfl rfl rfl rfl rfl rfl rfl (Nat.le_of_ble_eq_true rfl) (put_set _ (by simp [tab0])) rfl ?_
  ((conv => whnf); (repeat ((first | refine VrN.norm (wrap_i64 (by omega)) ?_ | refine VrN.keep ?_ | refine Nd.mk (by decide +kernel) ?_ | refine Nd.mk (by omega) ?_ | refine Nd.mk ⟨rfl, by decide +kernel, by decide +kernel⟩ ?_ | refine LdN.one _ rfl (fun w hw => hw.1) rfl ?_); (conv => whnf))))
  refine EffW.appTo (i := 1) (q := 3) (ys := [.iface 127 (.pointer (some ⟨tb, 0, none⟩))]) (replC 0 1 (.iface 127 (.pointer (some ⟨tb, 0, none⟩))) (some ⟨c, 0, none⟩) 10 k) 5 rfl rfl rfl rfl rfl rfl rfl (Nat.le_of_ble_eq_true rfl) rfl rfl ?_
  ((conv => whnf); (repeat ((first | refine BoxN.own ?_ | refine VrN.norm (wrap_i64 (by omega)) ?_ | refine VrN.keep ?_ | refine DrawN.calm (by decide +kernel) ?_ | refine Nd.mk (by decide +kernel) ?_ | refine Nd.mk (by omega) ?_ | (refine Nd.mk ?_ ?_; focus ((repeat' (first | exact trivial | exact wkE_refl _ | refine And.intro ?_ ?_)); done)) | refine RdN.intro _ rfl (by rfl) ?_); (conv => whnf))))
  refine EffW.appTo (i := 1) (q := 4) (ys := [.slice none 0 0]) (replC 0 1 (.iface 127 (.pointer (some ⟨tb, 0, none⟩))) none 0 0) 5 rfl rfl rfl rfl rfl rfl rfl (Nat.le_of_ble_eq_true rfl) rfl rfl ?_
  ((conv => whnf); (repeat ((first | refine BoxN.own ?_ | refine VrN.norm (wrap_i64 (by omega)) ?_ | refine VrN.keep ?_ | refine DrawN.calm (by decide +kernel) ?_ | refine Nd.mk (by decide +kernel) ?_ | refine Nd.mk (by omega) ?_ | (refine Nd.mk ?_ ?_; focus ((repeat' (first | exact trivial | exact wkE_refl _ | refine And.intro ?_ ?_)); done)) | refine RdN.intro _ rfl (by rfl) ?_); (conv => whnf))))
  refine ⟨rfl, 5, _, rfl, ⟨_, rfl⟩, rfl, ?_⟩
  ((conv => whnf); (repeat ((first | refine BoxN.own ?_ | refine VrN.norm (wrap_i64 (by omega)) ?_ | refine VrN.keep ?_ | refine DrawN.calm (by decide +kernel) ?_ | refine Nd.mk (by decide +kernel) ?_ | refine Nd.mk (by omega) ?_ | (refine Nd.mk ?_ ?_; focus ((repeat' (first | exact trivial | exact wkE_refl _ | refine And.intro ?_ ?_)); done)) | refine RdN.intro _ rfl (by rfl) ?_); (conv => whnf))))
  have hD := rounds_ok ht [(39, t1, k1, n1, c1), (34, t2, k2, n2, c2), (62, t3, k3, n3, c3), (60, t4, k4, n4, c4)] (38, t5, k5, n5, c5) (show htL.Nodup by decide) t tb (ht_other · ·) ht_len (Nat.le_of_ble_eq_true rfl)
  refine LdN.one (a := some ⟨b, 0, none⟩) (q := 3) (.iface 127 (.pointer (some ⟨tb, 0, none⟩))) rfl (fun w hw => hw.2.1) rfl ?_
  ((conv => whnf); (repeat ((first | refine BoxN.own ?_ | refine VrN.norm (wrap_i64 (by omega)) ?_ | refine VrN.keep ?_ | refine DrawN.calm (by decide +kernel) ?_ | refine Nd.mk (by decide +kernel) ?_ | refine Nd.mk (by omega) ?_ | (refine Nd.mk ?_ ?_; focus ((repeat' (first | exact trivial | exact wkE_refl _ | refine And.intro ?_ ?_)); done)) | refine RdN.intro _ rfl (by rfl) ?_); (conv => whnf))))
  refine InvN.intro 145 (.pointer (some ⟨tb, 0, none⟩)) (fun _ => by kernel_rfl) ?_
  have hF : ∀ w : World, SlAt (some ⟨tb, 0, none⟩) (1 * 257) (tabL (tab0 t) (rdL ht 0 [(39, t1, k1, n1, c1), (34, t2, k2, n2, c2), (62, t3, k3, n3, c3), (60, t4, k4, n4, c4), (38, t5, k5, n5, c5)])) w → SlAt (some ⟨t5, 0, none⟩) (5 * 1) (htL.map fun c => .string (bs [c])) w →
      SlAt (some ⟨n1, 0, none⟩) ((ht 39).length * 1) (u8s (ht 39)) w → SlAt (some ⟨n2, 0, none⟩) ((ht 34).length * 1) (u8s (ht 34)) w → SlAt (some ⟨n3, 0, none⟩) ((ht 62).length * 1) (u8s (ht 62)) w → SlAt (some ⟨n4, 0, none⟩) ((ht 60).length * 1) (u8s (ht 60)) w → SlAt (some ⟨n5, 0, none⟩) ((ht 38).length * 1) (u8s (ht 38)) w →
      TblF ht htL ⟨tb, tabL (tab0 t) (rdL ht 0 ([(39, t1, k1, n1, c1), (34, t2, k2, n2, c2), (62, t3, k3, n3, c3), (60, t4, k4, n4, c4)] ++ [(38, t5, k5, n5, c5)])), some ⟨t5, 0, none⟩, k5⟩ w := by
    intro w f1 f2 f3 f4 f5 f6 f7
    rw [Nat.mul_one] at f3 f4 f5 f6 f7
    refine ⟨f1, f2, rounds_fact ht [(39, t1, k1, n1, c1), (34, t2, k2, n2, c2), (62, t3, k3, n3, c3), (60, t4, k4, n4, c4), (38, t5, k5, n5, c5)] (show htL.Nodup by decide) t fun o t' k' n' cap' h => ?_⟩
    simp only [List.cons_append, List.nil_append, List.mem_cons, Prod.mk.injEq, List.not_mem_nil, or_false] at h
    rcases h with ⟨rfl, _, _, rfl, _⟩ | ⟨rfl, _, _, rfl, _⟩ | ⟨rfl, _, _, rfl, _⟩ | ⟨rfl, _, _, rfl, _⟩ | ⟨rfl, _, _, rfl, _⟩
    · exact f3
    · exact f4
    · exact f5
    · exact f6
    · exact f7
  refine call1 (bsr_c ht htL _ hD s hs _ fun w hw => hF w hw.2.2.2.1 hw.2.2.1 hw.2.2.2.2.1 hw.2.2.2.2.2.1 hw.2.2.2.2.2.2.1 hw.2.2.2.2.2.2.2.1 hw.2.2.2.2.2.2.2.2.1) ?_
  ((conv => whnf); (repeat ((first | refine BoxN.own ?_ | refine VrN.norm (wrap_i64 (by omega)) ?_ | refine VrN.keep ?_ | refine DrawN.calm (by decide +kernel) ?_ | refine Nd.mk (by decide +kernel) ?_ | refine Nd.mk (by omega) ?_ | (refine Nd.mk ?_ ?_; focus ((repeat' (first | exact trivial | exact wkE_refl _ | refine And.intro ?_ ?_)); done)) | refine RdN.intro _ rfl (by rfl) ?_); (conv => whnf))))
  refine ⟨_, hD, rfl, Nat.le_of_ble_eq_true rfl, fun e he => ?_⟩
  rcases List.mem_cons.1 he with rfl | he
  · exact .inl rfl
  · obtain rfl := List.mem_singleton.1 he
    exact .inr ⟨_, rfl, fun w hw => ⟨hw.2.1, hF w hw.2.2.2.1 hw.2.2.1 hw.2.2.2.2.1 hw.2.2.2.2.2.1 hw.2.2.2.2.2.2.1 hw.2.2.2.2.2.2.2.1 hw.2.2.2.2.2.2.2.2.1⟩⟩
set_option maxHeartbeats 4000000 in
theorem first_qt (s : List UInt8) (b c k : Nat) (hs : s.length ≤ 1000000) : SpecH Tryz.prog 21 (pvs [.pointer (some ⟨b, 0, none⟩), .string (bs s)]) [.app 9 1 (olnw qt qtL.reverse) (some ⟨c, 0, none⟩) 10 k, .app 82 5 (replC 0 0 .nilIface (some ⟨c, 0, none⟩) 10 k) (some ⟨b, 0, none⟩) 1 1]
    (RetG (TblOk qt qtL) (fun _ => .string (bs (s.flatMap qt))) fun d => [.dead, .fact fun w => SlAt (some ⟨b, 0, none⟩) 5 (replC 1 0 (.iface 127 (.pointer (some ⟨d.b, 0, none⟩))) none 0 0) w ∧ TblF qt qtL d w]) := by
  refine SpecH.seal (fun _ _ => Nat.le_refl _) ?_
  refine spec_of_exec hm Tryz.func21 (by kernel_rfl) rfl rfl ?_
  ((conv => whnf); (repeat ((first | refine BoxN.own ?_ | refine VrN.norm (wrap_i64 (by omega)) ?_ | refine VrN.keep ?_ | refine DrawN.calm (by decide +kernel) ?_ | refine Nd.mk (by decide +kernel) ?_ | refine Nd.mk (by omega) ?_ | (refine Nd.mk ?_ ?_; focus ((repeat' (first | exact trivial | exact wkE_refl _ | refine And.intro ?_ ?_)); done)) | refine RdN.intro _ rfl (by rfl) ?_); (conv => whnf))))
  refine SpecH.args (args' := pvs [.pointer (some ⟨b, 0, none⟩), .func (.func 38) #[.pointer (some ⟨b, 0, none⟩)] #[]]) (by simp [pvs, opvs, opv, nth, plainEv]; rfl) ?_
  refine SpecH.once (P := Tryz.prog) (fd := 37) (fb := 38) (p := .pointer (some ⟨b, 0, none⟩)) (T := 82) (m := 5) (b := b) (xs := replC 0 0 .nilIface (some ⟨c, 0, none⟩) 10 k) (H := [.app 9 1 (olnw qt qtL.reverse) (some ⟨c, 0, none⟩) 10 k, .app 82 5 (replC 0 0 .nilIface (some ⟨c, 0, none⟩) 10 k) (some ⟨b, 0, none⟩) 1 1]) (callOk Tryz.func37 (by kernel_rfl) rfl) 1 rfl rfl rfl (fun Q w => do_first b 0 _ Q w) ?_
  refine spec_of_exec hm Tryz.func38 (by kernel_rfl) rfl rfl ?_
  ((conv => whnf); (repeat ((first | refine BoxN.own ?_ | refine VrN.norm (wrap_i64 (by omega)) ?_ | refine VrN.keep ?_ | refine DrawN.calm (by decide +kernel) ?_ | refine Nd.mk (by decide +kernel) ?_ | refine Nd.mk (by omega) ?_ | (refine Nd.mk ?_ ?_; focus ((repeat' (first | exact trivial | exact wkE_refl _ | refine And.intro ?_ ?_)); done)) | refine RdN.intro _ rfl (by rfl) ?_); (conv => whnf))))
  refine spec_of_exec hm Tryz.func61 (by kernel_rfl) rfl rfl ?_
  ((conv => whnf); (repeat ((first | refine BoxN.own ?_ | refine VrN.norm (wrap_i64 (by omega)) ?_ | refine VrN.keep ?_ | refine DrawN.calm (by decide +kernel) ?_ | refine Nd.mk (by decide +kernel) ?_ | refine Nd.mk (by omega) ?_ | (refine Nd.mk ?_ ?_; focus ((repeat' (first | exact trivial | exact wkE_refl _ | refine And.intro ?_ ?_)); done)) | refine RdN.intro _ rfl (by rfl) ?_); (conv => whnf))))
  refine LdN.one (a := some ⟨b, 0, none⟩) (q := 4) (.slice (some ⟨c, 0, none⟩) 10 k) rfl (fun w hw => hw.2.1) rfl ?_
  ((conv => whnf); (repeat ((first | refine BoxN.own ?_ | refine VrN.norm (wrap_i64 (by omega)) ?_ | refine VrN.keep ?_ | refine DrawN.calm (by decide +kernel) ?_ | refine Nd.mk (by decide +kernel) ?_ | refine Nd.mk (by omega) ?_ | (refine Nd.mk ?_ ?_; focus ((repeat' (first | exact trivial | exact wkE_refl _ | refine And.intro ?_ ?_)); done)) | refine RdN.intro _ rfl (by rfl) ?_); (conv => whnf))))
  refine LoopN.unroll 6 ?_
  ((conv => whnf); (repeat ((first | refine VrN.norm (wrap_i64 (by omega)) ?_ | refine VrN.keep ?_ | refine Nd.mk (by decide +kernel) ?_ | refine Nd.mk (by omega) ?_ | refine Nd.mk ⟨rfl, by decide +kernel, by decide +kernel⟩ ?_ | refine LdN.one _ rfl (fun w hw => hw.1) rfl ?_); (conv => whnf))))
  refine EffW.mkEmpty 5 rfl Tryz.underlying63 rfl rfl rfl rfl (by decide +kernel) fun t => ?_
  ((conv => whnf); (repeat ((first | refine VrN.norm (wrap_i64 (by omega)) ?_ | refine VrN.keep ?_ | refine Nd.mk (by decide +kernel) ?_ | refine Nd.mk (by omega) ?_ | refine Nd.mk ⟨rfl, by decide +kernel, by decide +kernel⟩ ?_ | refine LdN.one _ rfl (fun w hw => hw.1) rfl ?_); (conv => whnf))))
  refine BoxN.known _ rfl fun tb => ?_
  ((conv => whnf); (repeat ((first | refine VrN.norm (wrap_i64 (by omega)) ?_ | refine VrN.keep ?_ | refine Nd.mk (by decide +kernel) ?_ | refine Nd.mk (by omega) ?_ | refine Nd.mk ⟨rfl, by decide +kernel, by decide +kernel⟩ ?_ | refine LdN.one _ rfl (fun w hw => hw.1) rfl ?_); (conv => whnf))))
  refine EffW.appTo (i := 3) (q := 0) (tab0 t) 257 rfl rfl rfl rfl rfl rfl rfl (Nat.le_of_ble_eq_true rfl) rfl rfl ?_
  ((conv => whnf); (repeat ((first | refine VrN.norm (wrap_i64 (by omega)) ?_ | refine VrN.keep ?_ | refine Nd.mk (by decide +kernel) ?_ | refine Nd.mk (by omega) ?_ | refine Nd.mk ⟨rfl, by decide +kernel, by decide +kernel⟩ ?_ | refine LdN.one _ rfl (fun w hw => hw.1) rfl ?_); (conv => whnf))))
  refine LoopN.unroll 6 ?_
  ((conv => whnf); (repeat ((first | refine VrN.norm (wrap_i64 (by omega)) ?_ | refine VrN.keep ?_ | refine Nd.mk (by decide +kernel) ?_ | refine Nd.mk (by omega) ?_ | refine Nd.mk ⟨rfl, by decide +kernel, by decide +kernel⟩ ?_ | refine LdN.one _ rfl (fun w hw => hw.1) rfl ?_); (conv => whnf))))
  refine LdN.fld (a := some ⟨tb, 0, none⟩) (q := 0) _ rfl (fun w hw => hw.2.2.2.1) rfl ?_
  ((conv => whnf); (repeat ((first | refine VrN.norm (wrap_i64 (by omega)) ?_ | refine VrN.keep ?_ | refine Nd.mk (by decide +kernel) ?_ | refine Nd.mk (by omega) ?_ | refine Nd.mk ⟨rfl, by decide +kernel, by decide +kernel⟩ ?_ | refine LdN.one _ rfl (fun w hw => hw.1) rfl ?_); (conv => whnf))))
  refine LdN.fld (a := some ⟨tb, 0, none⟩) (q := 0) _ rfl (fun w hw => hw.2.2.2.1) rfl ?_
  ((conv => whnf); (repeat ((first | refine VrN.norm (wrap_i64 (by omega)) ?_ | refine VrN.keep ?_ | refine Nd.mk (by decide +kernel) ?_ | refine Nd.mk (by omega) ?_ | refine Nd.mk ⟨rfl, by decide +kernel, by decide +kernel⟩ ?_ | refine LdN.one _ rfl (fun w hw => hw.1) rfl ?_); (conv => whnf))))
  refine ReadW.bytesOwn [0] rfl rfl Tryz.underlying22 Tryz.underlying5 Tryz.underlying9 rfl rfl ?_
  ((conv => whnf); (repeat ((first | refine VrN.norm (wrap_i64 (by omega)) ?_ | refine VrN.keep ?_ | refine Nd.mk (by decide +kernel) ?_ | refine Nd.mk (by omega) ?_ | refine Nd.mk ⟨rfl, by decide +kernel, by decide +kernel⟩ ?_ | refine LdN.one _ rfl (fun w hw => hw.1) rfl ?_); (conv => whnf))))
  refine AppN.grow 2 _ _ rfl rfl ⟨by decide, ⟨Nat.le_of_ble_eq_true rfl, by omega⟩, Nat.one_ne_zero⟩ fun t1 k1 h1 h1' => ?_
  ((conv => whnf); (repeat ((first | refine VrN.norm (wrap_i64 (by omega)) ?_ | refine VrN.keep ?_ | refine Nd.mk (by decide +kernel) ?_ | refine Nd.mk (by omega) ?_ | refine Nd.mk ⟨rfl, by decide +kernel, by decide +kernel⟩ ?_ | refine LdN.one _ rfl (fun w hw => hw.1) rfl ?_); (conv => whnf))))
  refine EffW.appTo (i := 3) (q := 256) (ys := [_]) _ 257 rfl rfl rfl rfl rfl rfl rfl (Nat.le_of_ble_eq_true rfl) (put_set _ (by simp [tab0])) rfl ?_
  ((conv => whnf); (repeat ((first | refine VrN.norm (wrap_i64 (by omega)) ?_ | refine VrN.keep ?_ | refine Nd.mk (by decide +kernel) ?_ | refine Nd.mk (by omega) ?_ | refine Nd.mk ⟨rfl, by decide +kernel, by decide +kernel⟩ ?_ | refine LdN.one _ rfl (fun w hw => hw.1) rfl ?_); (conv => whnf))))
  refine EffW.bytesOf _ rfl Tryz.underlying9 Tryz.underlying22 Tryz.underlying5 rfl (by decide) fun n1 c1 g1 g1' => ?_
  ((conv => whnf); (repeat ((first | refine VrN.norm (wrap_i64 (by omega)) ?_ | refine VrN.keep ?_ | refine Nd.mk (by decide +kernel) ?_ | refine Nd.mk (by omega) ?_ | refine Nd.mk ⟨rfl, by decide +kernel, by decide +kernel⟩ ?_ | refine LdN.one _ rfl (fun w hw => hw.1) rfl ?_); (conv => whnf))))
  refine EffW.appTo (i := 3) (q := 0) (ys := [_]) _ 257 rfl rfl rfl rfl rfl rfl rfl (Nat.le_of_ble_eq_true rfl) (put_set _ (by simp [tab0])) rfl ?_
  ((conv => whnf); (repeat ((first | refine VrN.norm (wrap_i64 (by omega)) ?_ | refine VrN.keep ?_ | refine Nd.mk (by decide +kernel) ?_ | refine Nd.mk (by omega) ?_ | refine Nd.mk ⟨rfl, by decide +kernel, by decide +kernel⟩ ?_ | refine LdN.one _ rfl (fun w hw => hw.1) rfl ?_); (conv => whnf))))
  refine LdN.fld (a := some ⟨tb, 0, none⟩) (q := 0) _ rfl (fun w hw => hw.2.2.2.1) rfl ?_
  ((conv => whnf); (repeat ((first | refine VrN.norm (wrap_i64 (by omega)) ?_ | refine VrN.keep ?_ | refine Nd.mk (by decide +kernel) ?_ | refine Nd.mk (by omega) ?_ | refine Nd.mk ⟨rfl, by decide +kernel, by decide +kernel⟩ ?_ | refine LdN.one _ rfl (fun w hw => hw.1) rfl ?_); (conv => whnf))))
  refine LdN.fld (a := some ⟨tb, 0, none⟩) (q := 0) _ rfl (fun w hw => hw.2.2.2.1) rfl ?_
  ((conv => whnf); (repeat ((first | refine VrN.norm (wrap_i64 (by omega)) ?_ | refine VrN.keep ?_ | refine Nd.mk (by decide +kernel) ?_ | refine Nd.mk (by omega) ?_ | refine Nd.mk ⟨rfl, by decide +kernel, by decide +kernel⟩ ?_ | refine LdN.one _ rfl (fun w hw => hw.1) rfl ?_); (conv => whnf))))
  refine ReadW.bytesOwn [10] rfl rfl Tryz.underlying22 Tryz.underlying5 Tryz.underlying9 rfl rfl ?_
  ((conv => whnf); (repeat ((first | refine VrN.norm (wrap_i64 (by omega)) ?_ | refine VrN.keep ?_ | refine Nd.mk (by decide +kernel) ?_ | refine Nd.mk (by omega) ?_ | refine Nd.mk ⟨rfl, by decide +kernel, by decide +kernel⟩ ?_ | refine LdN.one _ rfl (fun w hw => hw.1) rfl ?_); (conv => whnf))))
  refine AppN.grow 2 _ _ rfl rfl ⟨by decide, ⟨Nat.le_of_ble_eq_true rfl, by omega⟩, Nat.one_ne_zero⟩ fun t2 k2 h2 h2' => ?_
  ((conv => whnf); (repeat ((first | refine VrN.norm (wrap_i64 (by omega)) ?_ | refine VrN.keep ?_ | refine Nd.mk (by decide +kernel) ?_ | refine Nd.mk (by omega) ?_ | refine Nd.mk ⟨rfl, by decide +kernel, by decide +kernel⟩ ?_ | refine LdN.one _ rfl (fun w hw => hw.1) rfl ?_); (conv => whnf))))
  refine EffW.appTo (i := 3) (q := 256) (ys := [_]) _ 257 rfl rfl rfl rfl rfl rfl rfl (Nat.le_of_ble_eq_true rfl) (put_set _ (by simp [tab0])) rfl ?_
  ((conv => whnf); (repeat ((first | refine VrN.norm (wrap_i64 (by omega)) ?_ | refine VrN.keep ?_ | refine Nd.mk (by decide +kernel) ?_ | refine Nd.mk (by omega) ?_ | refine Nd.mk ⟨rfl, by decide +kernel, by decide +kernel⟩ ?_ | refine LdN.one _ rfl (fun w hw => hw.1) rfl ?_); (conv => whnf))))
  refine EffW.bytesOf _ rfl Tryz.underlying9 Tryz.underlying22 Tryz.underlying5 rfl (by decide) fun n2 c2 g2 g2' => ?_
  ((conv => whnf); (repeat ((first | refine VrN.norm (wrap_i64 (by omega)) ?_ | refine VrN.keep ?_ | refine Nd.mk (by decide +kernel) ?_ | refine Nd.mk (by omega) ?_ | refine Nd.mk ⟨rfl, by decide +kernel, by decide +kernel⟩ ?_ | refine LdN.one _ rfl (fun w hw => hw.1) rfl ?_); (conv => whnf))))
  refine EffW.appTo (i := 3) (q := 10) (ys := [_]) _ 257 rfl rfl rfl rfl rfl rfl rfl (Nat.le_of_ble_eq_true rfl) (put_set _ (by simp [tab0])) rfl ?_
  ((conv => whnf); (repeat ((first | refine VrN.norm (wrap_i64 (by omega)) ?_ | refine VrN.keep ?_ | refine Nd.mk (by decide +kernel) ?_ | refine Nd.mk (by omega) ?_ | refine Nd.mk ⟨rfl, by decide +kernel, by decide +kernel⟩ ?_ | refine LdN.one _ rfl (fun w hw => hw.1) rfl ?_); (conv => whnf))))
  refine LdN.fld (a := some ⟨tb, 0, none⟩) (q := 0) _ rfl (fun w hw => hw.2.2.2.1) rfl ?_
  ((conv => whnf); (repeat ((first | refine VrN.norm (wrap_i64 (by omega)) ?_ | refine VrN.keep ?_ | refine Nd.mk (by decide +kernel) ?_ | refine Nd.mk (by omega) ?_ | refine Nd.mk ⟨rfl, by decide +kernel, by decide +kernel⟩ ?_ | refine LdN.one _ rfl (fun w hw => hw.1) rfl ?_); (conv => whnf))))
  refine LdN.fld (a := some ⟨tb, 0, none⟩) (q := 0) _ rfl (fun w hw => hw.2.2.2.1) rfl ?_
  ((conv => whnf); (repeat ((first | refine VrN.norm (wrap_i64 (by omega)) ?_ | refine VrN.keep ?_ | refine Nd.mk (by decide +kernel) ?_ | refine Nd.mk (by omega) ?_ | refine Nd.mk ⟨rfl, by decide +kernel, by decide +kernel⟩ ?_ | refine LdN.one _ rfl (fun w hw => hw.1) rfl ?_); (conv => whnf))))
  refine ReadW.bytesOwn [35] rfl rfl Tryz.underlying22 Tryz.underlying5 Tryz.underlying9 rfl rfl ?_
  ((conv => whnf); (repeat ((first | refine VrN.norm (wrap_i64 (by omega)) ?_ | refine VrN.keep ?_ | refine Nd.mk (by decide +kernel) ?_ | refine Nd.mk (by omega) ?_ | refine Nd.mk ⟨rfl, by decide +kernel, by decide +kernel⟩ ?_ | refine LdN.one _ rfl (fun w hw => hw.1) rfl ?_); (conv => whnf))))
  refine AppN.grow 2 _ _ rfl rfl ⟨by decide, ⟨Nat.le_of_ble_eq_true rfl, by omega⟩, Nat.one_ne_zero⟩ fun t3 k3 h3 h3' => ?_
  ((conv => whnf); (repeat ((first | refine VrN.norm (wrap_i64 (by omega)) ?_ | refine VrN.keep ?_ | refine Nd.mk (by decide +kernel) ?_ | refine Nd.mk (by omega) ?_ | refine Nd.mk ⟨rfl, by decide +kernel, by decide +kernel⟩ ?_ | refine LdN.one _ rfl (fun w hw => hw.1) rfl ?_); (conv => whnf))))
  refine EffW.appTo (i := 3) (q := 256) (ys := [_]) _ 257 rfl rfl rfl rfl rfl rfl rfl (Nat.le_of_ble_eq_true rfl) (put_set _ (by simp [tab0])) rfl ?_
  ((conv => whnf); (repeat ((first | refine VrN.norm (wrap_i64 (by omega)) ?_ | refine VrN.keep ?_ | refine Nd.mk (by decide +kernel) ?_ | refine Nd.mk (by omega) ?_ | refine Nd.mk ⟨rfl, by decide +kernel, by decide +kernel⟩ ?_ | refine LdN.one _ rfl (fun w hw => hw.1) rfl ?_); (conv => whnf))))
  refine EffW.bytesOf _ rfl Tryz.underlying9 Tryz.underlying22 Tryz.underlying5 rfl (by decide) fun n3 c3 g3 g3' => ?_
  ((conv => whnf); (repeat ((first | refine VrN.norm (wrap_i64 (by omega)) ?_ | refine VrN.keep ?_ | refine Nd.mk (by decide +kernel) ?_ | refine Nd.mk (by omega) ?_ | refine Nd.mk ⟨rfl, by decide +kernel, by decide +kernel⟩ ?_ | refine LdN.one _ rfl (fun w hw => hw.1) rfl ?_); (conv => whnf))))
  refine EffW.appTo (i := 3) (q := 35) (ys := [_]) _ 257 rfl rfl rfl rfl rfl rfl rfl (Nat.le_of_ble_eq_true rfl) (put_set _ (by simp [tab0])) rfl ?_
  ((conv => whnf); (repeat ((first | refine VrN.norm (wrap_i64 (by omega)) ?_ | refine VrN.keep ?_ | refine Nd.mk (by decide +kernel) ?_ | refine Nd.mk (by omega) ?_ | refine Nd.mk ⟨rfl, by decide +kernel, by decide +kernel⟩ ?_ | refine LdN.one _ rfl (fun w hw => hw.1) rfl ?_); (conv => whnf))))
  refine LdN.fld (a := some ⟨tb, 0, none⟩) (q := 0) _ rfl (fun w hw => hw.2.2.2.1) rfl ?_
  ((conv => whnf); (repeat ((first | refine VrN.norm (wrap_i64 (by omega)) ?_ | refine VrN.keep ?_ | refine Nd.mk (by decide +kernel) ?_ | refine Nd.mk (by omega) ?_ | refine Nd.mk ⟨rfl, by decide +kernel, by decide +kernel⟩ ?_ | refine LdN.one _ rfl (fun w hw => hw.1) rfl ?_); (conv => whnf))))
  refine LdN.fld (a := some ⟨tb, 0, none⟩) (q := 0) _ rfl (fun w hw => hw.2.2.2.1) rfl ?_
  ((conv => whnf); (repeat ((first | refine VrN.norm (wrap_i64 (by omega)) ?_ | refine VrN.keep ?_ | refine Nd.mk (by decide +kernel) ?_ | refine Nd.mk (by omega) ?_ | refine Nd.mk ⟨rfl, by decide +kernel, by decide +kernel⟩ ?_ | refine LdN.one _ rfl (fun w hw => hw.1) rfl ?_); (conv => whnf))))
  refine ReadW.bytesOwn [34] rfl rfl Tryz.underlying22 Tryz.underlying5 Tryz.underlying9 rfl rfl ?_
  ((conv => whnf); (repeat ((first | refine VrN.norm (wrap_i64 (by omega)) ?_ | refine VrN.keep ?_ | refine Nd.mk (by decide +kernel) ?_ | refine Nd.mk (by omega) ?_ | refine Nd.mk ⟨rfl, by decide +kernel, by decide +kernel⟩ ?_ | refine LdN.one _ rfl (fun w hw => hw.1) rfl ?_); (conv => whnf))))
  refine AppN.grow 2 _ _ rfl rfl ⟨by decide, ⟨Nat.le_of_ble_eq_true rfl, by omega⟩, Nat.one_ne_zero⟩ fun t4 k4 h4 h4' => ?_
  ((conv => whnf); (repeat ((first | refine VrN.norm (wrap_i64 (by omega)) ?_ | refine VrN.keep ?_ | refine Nd.mk (by decide +kernel) ?_ | refine Nd.mk (by omega) ?_ | refine Nd.mk ⟨rfl, by decide +kernel, by decide +kernel⟩ ?_ | refine LdN.one _ rfl (fun w hw => hw.1) rfl ?_); (conv => whnf))))
  refine EffW.appTo (i := 3) (q := 256) (ys := [_]) _ 257 rfl rfl rfl rfl rfl rfl rfl (Nat.le_of_ble_eq_true rfl) (put_set _ (by simp [tab0])) rfl ?_
  ((conv => whnf); (repeat ((first | refine VrN.norm (wrap_i64 (by omega)) ?_ | refine VrN.keep ?_ | refine Nd.mk (by decide +kernel) ?_ | refine Nd.mk (by omega) ?_ | refine Nd.mk ⟨rfl, by decide +kernel, by decide +kernel⟩ ?_ | refine LdN.one _ rfl (fun w hw => hw.1) rfl ?_); (conv => whnf))))
  refine EffW.bytesOf _ rfl Tryz.underlying9 Tryz.underlying22 Tryz.underlying5 rfl (by decide) fun n4 c4 g4 g4' => ?_
  ((conv => whnf); (repeat ((first | refine VrN.norm (wrap_i64 (by omega)) ?_ | refine VrN.keep ?_ | refine Nd.mk (by decide +kernel) ?_ | refine Nd.mk (by omega) ?_ | refine Nd.mk ⟨rfl, by decide +kernel, by decide +kernel⟩ ?_ | refine LdN.one _ rfl (fun w hw => hw.1) rfl ?_); (conv => whnf))))
  refine EffW.appTo (i := 3) (q := 34) (ys := [_]) _ 257 rfl rfl rfl rfl rfl rfl rfl (Nat.le_of_ble_eq_true rfl) (put_set _ (by simp [tab0])) rfl ?_
  ((conv => whnf); (repeat ((first | refine VrN.norm (wrap_i64 (by omega)) ?_ | refine VrN.keep ?_ | refine Nd.mk (by decide +kernel) ?_ | refine Nd.mk (by omega) ?_ | refine Nd.mk ⟨rfl, by decide +kernel, by decide +kernel⟩ ?_ | refine LdN.one _ rfl (fun w hw => hw.1) rfl ?_); (conv => whnf))))
  refine LdN.fld (a := some ⟨tb, 0, none⟩) (q := 0) _ rfl (fun w hw => hw.2.2.2.1) rfl ?_
  ((conv => whnf); (repeat ((first | refine VrN.norm (wrap_i64 (by omega)) ?_ | refine VrN.keep ?_ | refine Nd.mk (by decide +kernel) ?_ | refine Nd.mk (by omega) ?_ | refine Nd.mk ⟨rfl, by decide +kernel, by decide +kernel⟩ ?_ | refine LdN.one _ rfl (fun w hw => hw.1) rfl ?_); (conv => whnf))))
  refine LdN.fld (a := some ⟨tb, 0, none⟩) (q := 0) _ rfl (fun w hw => hw.2.2.2.1) rfl ?_
  ((conv => whnf); (repeat ((first | refine VrN.norm (wrap_i64 (by omega)) ?_ | refine VrN.keep ?_ | refine Nd.mk (by decide +kernel) ?_ | refine Nd.mk (by omega) ?_ | refine Nd.mk ⟨rfl, by decide +kernel, by decide +kernel⟩ ?_ | refine LdN.one _ rfl (fun w hw => hw.1) rfl ?_); (conv => whnf))))
  refine ReadW.bytesOwn [92] rfl rfl Tryz.underlying22 Tryz.underlying5 Tryz.underlying9 rfl rfl ?_
  ((conv => whnf); (repeat ((first | refine VrN.norm (wrap_i64 (by omega)) ?_ | refine VrN.keep ?_ | refine Nd.mk (by decide +kernel) ?_ | refine Nd.mk (by omega) ?_ | refine Nd.mk ⟨rfl, by decide +kernel, by decide +kernel⟩ ?_ | refine LdN.one _ rfl (fun w hw => hw.1) rfl ?_); (conv => whnf))))
  refine AppN.grow 2 _ _ rfl rfl ⟨by decide, ⟨Nat.le_of_ble_eq_true rfl, by omega⟩, Nat.one_ne_zero⟩ fun t5 k5 h5 h5' => ?_
  ((conv => whnf); (repeat ((first | refine VrN.norm (wrap_i64 (by omega)) ?_ | refine VrN.keep ?_ | refine Nd.mk (by decide +kernel) ?_ | refine Nd.mk (by omega) ?_ | refine Nd.mk ⟨rfl, by decide +kernel, by decide +kernel⟩ ?_ | refine LdN.one _ rfl (fun w hw => hw.1) rfl ?_); (conv => whnf))))
  refine EffW.appTo (i := 3) (q := 256) (ys := [_]) _ 257 rfl rfl rfl rfl rfl rfl rfl (Nat.le_of_ble_eq_true rfl) (put_set _ (by simp [tab0])) rfl ?_
  ((conv => whnf); (repeat ((first | refine VrN.norm (wrap_i64 (by omega)) ?_ | refine VrN.keep ?_ | refine Nd.mk (by decide +kernel) ?_ | refine Nd.mk (by omega) ?_ | refine Nd.mk ⟨rfl, by decide +kernel, by decide +kernel⟩ ?_ | refine LdN.one _ rfl (fun w hw => hw.1) rfl ?_); (conv => whnf))))
  refine EffW.bytesOf _ rfl Tryz.underlying9 Tryz.underlying22 Tryz.underlying5 rfl (by decide) fun n5 c5 g5 g5' => ?_
  ((conv => whnf); (repeat ((first | refine VrN.norm (wrap_i64 (by omega)) ?_ | refine VrN.keep ?_ | refine Nd.mk (by decide +kernel) ?_ | refine Nd.mk (by omega) ?_ | refine Nd.mk ⟨rfl, by decide +kernel, by decide +kernel⟩ ?_ | refine LdN.one _ rfl (fun w hw => hw.1) rfl ?_); (conv => whnf))))
  refine EffW.appTo (i := 3) (q := 92) (ys := [_]) _ 257 rfl rfl rfl rfl rfl rfl rfl (Nat.le_of_ble_eq_true rfl) (put_set _ (by simp [tab0])) rfl ?_
  ((conv => whnf); (repeat ((first | refine VrN.norm (wrap_i64 (by omega)) ?_ | refine VrN.keep ?_ | refine Nd.mk (by decide +kernel) ?_ | refine Nd.mk (by omega) ?_ | refine Nd.mk ⟨rfl, by decide +kernel, by decide +kernel⟩ ?_ | refine LdN.one _ rfl (fun w hw => hw.1) rfl ?_); (conv => whnf))))
  refine EffW.appTo (i := 1) (q := 3) (ys := [.iface 127 (.pointer (some ⟨tb, 0, none⟩))]) (replC 0 1 (.iface 127 (.pointer (some ⟨tb, 0, none⟩))) (some ⟨c, 0, none⟩) 10 k) 5 rfl rfl rfl rfl rfl rfl rfl (Nat.le_of_ble_eq_true rfl) rfl rfl ?_
  ((conv => whnf); (repeat ((first | refine BoxN.own ?_ | refine VrN.norm (wrap_i64 (by omega)) ?_ | refine VrN.keep ?_ | refine DrawN.calm (by decide +kernel) ?_ | refine Nd.mk (by decide +kernel) ?_ | refine Nd.mk (by omega) ?_ | (refine Nd.mk ?_ ?_; focus ((repeat' (first | exact trivial | exact wkE_refl _ | refine And.intro ?_ ?_)); done)) | refine RdN.intro _ rfl (by rfl) ?_); (conv => whnf))))
  refine EffW.appTo (i := 1) (q := 4) (ys := [.slice none 0 0]) (replC 0 1 (.iface 127 (.pointer (some ⟨tb, 0, none⟩))) none 0 0) 5 rfl rfl rfl rfl rfl rfl rfl (Nat.le_of_ble_eq_true rfl) rfl rfl ?_
  ((conv => whnf); (repeat ((first | refine BoxN.own ?_ | refine VrN.norm (wrap_i64 (by omega)) ?_ | refine VrN.keep ?_ | refine DrawN.calm (by decide +kernel) ?_ | refine Nd.mk (by decide +kernel) ?_ | refine Nd.mk (by omega) ?_ | (refine Nd.mk ?_ ?_; focus ((repeat' (first | exact trivial | exact wkE_refl _ | refine And.intro ?_ ?_)); done)) | refine RdN.intro _ rfl (by rfl) ?_); (conv => whnf))))
  refine ⟨rfl, 5, _, rfl, ⟨_, rfl⟩, rfl, ?_⟩
  ((conv => whnf); (repeat ((first | refine BoxN.own ?_ | refine VrN.norm (wrap_i64 (by omega)) ?_ | refine VrN.keep ?_ | refine DrawN.calm (by decide +kernel) ?_ | refine Nd.mk (by decide +kernel) ?_ | refine Nd.mk (by omega) ?_ | (refine Nd.mk ?_ ?_; focus ((repeat' (first | exact trivial | exact wkE_refl _ | refine And.intro ?_ ?_)); done)) | refine RdN.intro _ rfl (by rfl) ?_); (conv => whnf))))
  have hD := rounds_ok qt [(0, t1, k1, n1, c1), (10, t2, k2, n2, c2), (35, t3, k3, n3, c3), (34, t4, k4, n4, c4)] (92, t5, k5, n5, c5) (show qtL.Nodup by decide) t tb (qt_other · ·) qt_len (Nat.le_of_ble_eq_true rfl)
  refine LdN.one (a := some ⟨b, 0, none⟩) (q := 3) (.iface 127 (.pointer (some ⟨tb, 0, none⟩))) rfl (fun w hw => hw.2.1) rfl ?_
  ((conv => whnf); (repeat ((first | refine BoxN.own ?_ | refine VrN.norm (wrap_i64 (by omega)) ?_ | refine VrN.keep ?_ | refine DrawN.calm (by decide +kernel) ?_ | refine Nd.mk (by decide +kernel) ?_ | refine Nd.mk (by omega) ?_ | (refine Nd.mk ?_ ?_; focus ((repeat' (first | exact trivial | exact wkE_refl _ | refine And.intro ?_ ?_)); done)) | refine RdN.intro _ rfl (by rfl) ?_); (conv => whnf))))
  refine InvN.intro 145 (.pointer (some ⟨tb, 0, none⟩)) (fun _ => by kernel_rfl) ?_
  have hF : ∀ w : World, SlAt (some ⟨tb, 0, none⟩) (1 * 257) (tabL (tab0 t) (rdL qt 0 [(0, t1, k1, n1, c1), (10, t2, k2, n2, c2), (35, t3, k3, n3, c3), (34, t4, k4, n4, c4), (92, t5, k5, n5, c5)])) w → SlAt (some ⟨t5, 0, none⟩) (5 * 1) (qtL.map fun c => .string (bs [c])) w →
      SlAt (some ⟨n1, 0, none⟩) ((qt 0).length * 1) (u8s (qt 0)) w → SlAt (some ⟨n2, 0, none⟩) ((qt 10).length * 1) (u8s (qt 10)) w → SlAt (some ⟨n3, 0, none⟩) ((qt 35).length * 1) (u8s (qt 35)) w → SlAt (some ⟨n4, 0, none⟩) ((qt 34).length * 1) (u8s (qt 34)) w → SlAt (some ⟨n5, 0, none⟩) ((qt 92).length * 1) (u8s (qt 92)) w →
      TblF qt qtL ⟨tb, tabL (tab0 t) (rdL qt 0 ([(0, t1, k1, n1, c1), (10, t2, k2, n2, c2), (35, t3, k3, n3, c3), (34, t4, k4, n4, c4)] ++ [(92, t5, k5, n5, c5)])), some ⟨t5, 0, none⟩, k5⟩ w := by
    intro w f1 f2 f3 f4 f5 f6 f7
    rw [Nat.mul_one] at f3 f4 f5 f6 f7
    refine ⟨f1, f2, rounds_fact qt [(0, t1, k1, n1, c1), (10, t2, k2, n2, c2), (35, t3, k3, n3, c3), (34, t4, k4, n4, c4), (92, t5, k5, n5, c5)] (show qtL.Nodup by decide) t fun o t' k' n' cap' h => ?_⟩
    simp only [List.cons_append, List.nil_append, List.mem_cons, Prod.mk.injEq, List.not_mem_nil, or_false] at h
    rcases h with ⟨rfl, _, _, rfl, _⟩ | ⟨rfl, _, _, rfl, _⟩ | ⟨rfl, _, _, rfl, _⟩ | ⟨rfl, _, _, rfl, _⟩ | ⟨rfl, _, _, rfl, _⟩
    · exact f3
    · exact f4
    · exact f5
    · exact f6
    · exact f7
  refine call1 (bsr_c qt qtL _ hD s hs _ fun w hw => hF w hw.2.2.2.1 hw.2.2.1 hw.2.2.2.2.1 hw.2.2.2.2.2.1 hw.2.2.2.2.2.2.1 hw.2.2.2.2.2.2.2.1 hw.2.2.2.2.2.2.2.2.1) ?_
  ((conv => whnf); (repeat ((first | refine BoxN.own ?_ | refine VrN.norm (wrap_i64 (by omega)) ?_ | refine VrN.keep ?_ | refine DrawN.calm (by decide +kernel) ?_ | refine Nd.mk (by decide +kernel) ?_ | refine Nd.mk (by omega) ?_ | (refine Nd.mk ?_ ?_; focus ((repeat' (first | exact trivial | exact wkE_refl _ | refine And.intro ?_ ?_)); done)) | refine RdN.intro _ rfl (by rfl) ?_); (conv => whnf))))
  refine ⟨_, hD, rfl, Nat.le_of_ble_eq_true rfl, fun e he => ?_⟩
  rcases List.mem_cons.1 he with rfl | he
  · exact .inl rfl
  · obtain rfl := List.mem_singleton.1 he
    exact .inr ⟨_, rfl, fun w hw => ⟨hw.2.1, hF w hw.2.2.2.1 hw.2.2.1 hw.2.2.2.2.1 hw.2.2.2.2.2.1 hw.2.2.2.2.2.2.1 hw.2.2.2.2.2.2.2.1 hw.2.2.2.2.2.2.2.2.1⟩⟩
end Go.Proofs.YtfcjgklghgpddaaGreatDoor

/-
  Contracts: Replace of a Replacer that was built; Html.
-/
namespace Go.Proofs.YtfcjgklghgpddaaGreatDoor
open Go.AX Go.RowKit
set_option maxRecDepth 20000

def DoneF (b : Nat) (f : UInt8 → List UInt8) (olds : List UInt8) (d : Tbl) (w : World) : Prop :=
  SlAt (some ⟨b, 0, none⟩) 5 (replC 1 0 (.iface 127 (.pointer (some ⟨d.b, 0, none⟩))) none 0 0) w ∧ TblF f olds d w
theorem done_c (f : UInt8 → List UInt8) (olds : List UInt8) (d : Tbl) (hd : TblOk f olds d) (b : Nat) (s : List UInt8) (hs : s.length ≤ 1000000) : ∀ H, (∀ w, Facts H w → DoneF b f olds d w) →
    SpecH Tryz.prog 21 (pvs [.pointer (some ⟨b, 0, none⟩), .string (bs s)]) H (Ret (.string (bs (s.flatMap f))) H) := by
  refine factC hm Tryz.func21 (by kernel_rfl) rfl rfl ?_
  ((conv => whnf); (repeat ((first | refine BoxN.own ?_ | refine VrN.norm (wrap_i64 (by omega)) ?_ | refine VrN.keep ?_ | refine DrawN.calm (by decide +kernel) ?_ | refine Nd.mk (by decide +kernel) ?_ | refine Nd.mk (by omega) ?_ | (refine Nd.mk ?_ ?_; focus ((repeat' (first | exact trivial | exact wkE_refl _ | refine And.intro ?_ ?_)); done)) | refine RdN.intro _ rfl (by rfl) ?_); (conv => whnf))))
  refine SpecH.args (args' := pvs [.pointer (some ⟨b, 0, none⟩), .func (.func 38) #[.pointer (some ⟨b, 0, none⟩)] #[]]) (by simp [pvs, opvs, opv, nth, plainEv]; rfl) ?_
  refine SpecH.rawP (R := fun r => r = .tuple #[]) (callOk Tryz.func37 (by kernel_rfl) rfl) (fun w hw => (do_done ⟨b, 0, none⟩ 1 (by decide) _ w (hw.1.1.cell (q := 0) rfl)).mono fun e w' ⟨he, hw'⟩ => ⟨_, he, rfl, by rw [hw']; exact Below.refl _ _⟩) ?_
  rintro r rfl
  ((conv => whnf); (repeat ((first | refine BoxN.own ?_ | refine VrN.norm (wrap_i64 (by omega)) ?_ | refine VrN.keep ?_ | refine DrawN.calm (by decide +kernel) ?_ | refine Nd.mk (by decide +kernel) ?_ | refine Nd.mk (by omega) ?_ | (refine Nd.mk ?_ ?_; focus ((repeat' (first | exact trivial | exact wkE_refl _ | refine And.intro ?_ ?_)); done)) | refine RdN.intro _ rfl (by rfl) ?_); (conv => whnf))))
  refine LdN.one (a := some ⟨b, 0, none⟩) (q := 3) (.iface 127 (.pointer (some ⟨d.b, 0, none⟩))) rfl (fun w hw => hw.1.1) rfl ?_
  ((conv => whnf); (repeat ((first | refine BoxN.own ?_ | refine VrN.norm (wrap_i64 (by omega)) ?_ | refine VrN.keep ?_ | refine DrawN.calm (by decide +kernel) ?_ | refine Nd.mk (by decide +kernel) ?_ | refine Nd.mk (by omega) ?_ | (refine Nd.mk ?_ ?_; focus ((repeat' (first | exact trivial | exact wkE_refl _ | refine And.intro ?_ ?_)); done)) | refine RdN.intro _ rfl (by rfl) ?_); (conv => whnf))))
  refine InvN.intro 145 (.pointer (some ⟨d.b, 0, none⟩)) (fun _ => by kernel_rfl) ?_
  refine call1 (bsr_c f olds d hd s hs _ fun w hw => hw.1.2) ?_
  ((conv => whnf); (repeat ((first | refine BoxN.own ?_ | refine VrN.norm (wrap_i64 (by omega)) ?_ | refine VrN.keep ?_ | refine DrawN.calm (by decide +kernel) ?_ | refine Nd.mk (by decide +kernel) ?_ | refine Nd.mk (by omega) ?_ | (refine Nd.mk ?_ ?_; focus ((repeat' (first | exact trivial | exact wkE_refl _ | refine And.intro ?_ ?_)); done)) | refine RdN.intro _ rfl (by rfl) ?_); (conv => whnf))))
theorem Html_c (s : List UInt8) (hs : s.length ≤ 1000000) : ∀ H : List Ent, SpecH Tryz.prog 11 (pvs [.string (bs s)]) H (Ret (.string (bs (s.flatMap ht))) H) := by
  refine pureC hm Tryz.func11 (by kernel_rfl) rfl rfl ?_
  ((conv => whnf); (repeat ((first | refine BoxN.own ?_ | refine VrN.norm (wrap_i64 (by omega)) ?_ | refine VrN.keep ?_ | refine DrawN.calm (by decide +kernel) ?_ | refine Nd.mk (by decide +kernel) ?_ | refine Nd.mk (by omega) ?_ | (refine Nd.mk ?_ ?_; focus ((repeat' (first | exact trivial | exact wkE_refl _ | refine And.intro ?_ ?_)); done)) | refine RdN.intro _ rfl (by rfl) ?_); (conv => whnf))))
  refine SpecH.freeze (callOk Tryz.func19 (by kernel_rfl) rfl) 0 rfl rfl fun b0 cap _ => ?_
  refine SpecH.plain rfl ?_
  refine callG (NewReplacer_c b0 (olnw ht htL.reverse) cap (by decide) (by decide) (by decide) (by decide)) [0] rfl ⟨rfl, trivial⟩ rfl fun ⟨b, c, k⟩ _ => ?_
  ((conv => whnf); (repeat ((first | refine BoxN.own ?_ | refine VrN.norm (wrap_i64 (by omega)) ?_ | refine VrN.keep ?_ | refine DrawN.calm (by decide +kernel) ?_ | refine Nd.mk (by decide +kernel) ?_ | refine Nd.mk (by omega) ?_ | (refine Nd.mk ?_ ?_; focus ((repeat' (first | exact trivial | exact wkE_refl _ | refine And.intro ?_ ?_)); done)) | refine RdN.intro _ rfl (by rfl) ?_); (conv => whnf))))
  refine callG (first_ht s b c k hs) [1, 2] rfl ⟨rfl, rfl, trivial⟩ rfl fun d hd => ?_
  ((conv => whnf); (repeat ((first | refine BoxN.own ?_ | refine VrN.norm (wrap_i64 (by omega)) ?_ | refine VrN.keep ?_ | refine DrawN.calm (by decide +kernel) ?_ | refine Nd.mk (by decide +kernel) ?_ | refine Nd.mk (by omega) ?_ | (refine Nd.mk ?_ ?_; focus ((repeat' (first | exact trivial | exact wkE_refl _ | refine And.intro ?_ ?_)); done)) | refine RdN.intro _ rfl (by rfl) ?_); (conv => whnf))))
end Go.Proofs.YtfcjgklghgpddaaGreatDoor

/-
  Contract: the law ErbHtml.
-/
namespace Go.Proofs.YtfcjgklghgpddaaGreatDoor
open Go.AX Go.RowKit
set_option maxRecDepth 20000
theorem ErbHtml_c (s t : List UInt8) (hs : s.length ≤ 200000000000000) (ht2 : t.length ≤ 200000000000000) : ∀ H, (∀ w, Facts H w → MaxF w) → SpecH Tryz.prog 4 (pvs [.string (bs s), .string (bs t)]) H (Ret (.bool true) H) := by
  refine factC hm Tryz.func4 (by kernel_rfl) rfl rfl ?_
  have hz := bs_size s
  have hzt := bs_size t
  ((conv => whnf); (repeat ((first | refine BoxN.own ?_ | refine VrN.norm (wrap_i64 (by omega)) ?_ | refine VrN.keep ?_ | refine DrawN.calm (by decide +kernel) ?_ | refine Nd.mk (by decide +kernel) ?_ | refine Nd.mk (by omega) ?_ | (refine Nd.mk ?_ ?_; focus ((repeat' (first | exact trivial | exact wkE_refl _ | refine And.intro ?_ ?_)); done)) | refine RdN.intro _ rfl (by rfl) ?_); (conv => whnf))))
  rw [hz]
  refine brd_dec (fun h1 => ?_) (fun h1 => ?_)
  · ((conv => whnf); (repeat ((first | refine BoxN.own ?_ | refine VrN.norm (wrap_i64 (by omega)) ?_ | refine VrN.keep ?_ | refine DrawN.calm (by decide +kernel) ?_ | refine Nd.mk (by decide +kernel) ?_ | refine Nd.mk (by omega) ?_ | (refine Nd.mk ?_ ?_; focus ((repeat' (first | exact trivial | exact wkE_refl _ | refine And.intro ?_ ?_)); done)) | refine RdN.intro _ rfl (by rfl) ?_); (conv => whnf))))
    refine call1 (sane_c _ fun w hw => hw.1) ?_
    ((conv => whnf); (repeat ((first | refine BoxN.own ?_ | refine VrN.norm (wrap_i64 (by omega)) ?_ | refine VrN.keep ?_ | refine DrawN.calm (by decide +kernel) ?_ | refine Nd.mk (by decide +kernel) ?_ | refine Nd.mk (by omega) ?_ | (refine Nd.mk ?_ ?_; focus ((repeat' (first | exact trivial | exact wkE_refl _ | refine And.intro ?_ ?_)); done)) | refine RdN.intro _ rfl (by rfl) ?_); (conv => whnf))))
  ((conv => whnf); (repeat ((first | refine BoxN.own ?_ | refine VrN.norm (wrap_i64 (by omega)) ?_ | refine VrN.keep ?_ | refine DrawN.calm (by decide +kernel) ?_ | refine Nd.mk (by decide +kernel) ?_ | refine Nd.mk (by omega) ?_ | (refine Nd.mk ?_ ?_; focus ((repeat' (first | exact trivial | exact wkE_refl _ | refine And.intro ?_ ?_)); done)) | refine RdN.intro _ rfl (by rfl) ?_); (conv => whnf))))
  rw [hzt]
  refine brd_dec (fun h2 => ?_) (fun h2 => ?_)
  · ((conv => whnf); (repeat ((first | refine BoxN.own ?_ | refine VrN.norm (wrap_i64 (by omega)) ?_ | refine VrN.keep ?_ | refine DrawN.calm (by decide +kernel) ?_ | refine Nd.mk (by decide +kernel) ?_ | refine Nd.mk (by omega) ?_ | (refine Nd.mk ?_ ?_; focus ((repeat' (first | exact trivial | exact wkE_refl _ | refine And.intro ?_ ?_)); done)) | refine RdN.intro _ rfl (by rfl) ?_); (conv => whnf))))
    refine call1 (sane_c _ fun w hw => hw.1) ?_
    ((conv => whnf); (repeat ((first | refine BoxN.own ?_ | refine VrN.norm (wrap_i64 (by omega)) ?_ | refine VrN.keep ?_ | refine DrawN.calm (by decide +kernel) ?_ | refine Nd.mk (by decide +kernel) ?_ | refine Nd.mk (by omega) ?_ | (refine Nd.mk ?_ ?_; focus ((repeat' (first | exact trivial | exact wkE_refl _ | refine And.intro ?_ ?_)); done)) | refine RdN.intro _ rfl (by rfl) ?_); (conv => whnf))))
  have l1 : (s.flatMap ht).length ≤ 6 * s.length := flat_le (fun c => (ht_len c).2) s
  have l2 : (t.flatMap ht).length ≤ 6 * t.length := flat_le (fun c => (ht_len c).2) t
  ((conv => whnf); (repeat ((first | refine BoxN.own ?_ | refine VrN.norm (wrap_i64 (by omega)) ?_ | refine VrN.keep ?_ | refine DrawN.calm (by decide +kernel) ?_ | refine Nd.mk (by decide +kernel) ?_ | refine Nd.mk (by omega) ?_ | (refine Nd.mk ?_ ?_; focus ((repeat' (first | exact trivial | exact wkE_refl _ | refine And.intro ?_ ?_)); done)) | refine RdN.intro _ rfl (by rfl) ?_); (conv => whnf))))
  refine call1 (Html_c s (by omega) _) ?_
  ((conv => whnf); (repeat ((first | refine BoxN.own ?_ | refine VrN.norm (wrap_i64 (by omega)) ?_ | refine VrN.keep ?_ | refine DrawN.calm (by decide +kernel) ?_ | refine Nd.mk (by decide +kernel) ?_ | refine Nd.mk (by omega) ?_ | (refine Nd.mk ?_ ?_; focus ((repeat' (first | exact trivial | exact wkE_refl _ | refine And.intro ?_ ?_)); done)) | refine RdN.intro _ rfl (by rfl) ?_); (conv => whnf))))
  refine call1 (RHtml_c s (by omega) _ fun w hw => hw.1) ?_
  ((conv => whnf); (repeat ((first | refine BoxN.own ?_ | refine VrN.norm (wrap_i64 (by omega)) ?_ | refine VrN.keep ?_ | refine DrawN.calm (by decide +kernel) ?_ | refine Nd.mk (by decide +kernel) ?_ | refine Nd.mk (by omega) ?_ | (refine Nd.mk ?_ ?_; focus ((repeat' (first | exact trivial | exact wkE_refl _ | refine And.intro ?_ ?_)); done)) | refine RdN.intro _ rfl (by rfl) ?_); (conv => whnf))))
  refine brdT (by simp) ?_
  ((conv => whnf); (repeat ((first | refine BoxN.own ?_ | refine VrN.norm (wrap_i64 (by omega)) ?_ | refine VrN.keep ?_ | refine DrawN.calm (by decide +kernel) ?_ | refine Nd.mk (by decide +kernel) ?_ | refine Nd.mk (by omega) ?_ | (refine Nd.mk ?_ ?_; focus ((repeat' (first | exact trivial | exact wkE_refl _ | refine And.intro ?_ ?_)); done)) | refine RdN.intro _ rfl (by rfl) ?_); (conv => whnf))))
  rw [bs_app]
  refine call1 (Html_c (s ++ t) (by simp; omega) _) ?_
  ((conv => whnf); (repeat ((first | refine BoxN.own ?_ | refine VrN.norm (wrap_i64 (by omega)) ?_ | refine VrN.keep ?_ | refine DrawN.calm (by decide +kernel) ?_ | refine Nd.mk (by decide +kernel) ?_ | refine Nd.mk (by omega) ?_ | (refine Nd.mk ?_ ?_; focus ((repeat' (first | exact trivial | exact wkE_refl _ | refine And.intro ?_ ?_)); done)) | refine RdN.intro _ rfl (by rfl) ?_); (conv => whnf))))
  refine call1 (Html_c s (by omega) _) ?_
  ((conv => whnf); (repeat ((first | refine BoxN.own ?_ | refine VrN.norm (wrap_i64 (by omega)) ?_ | refine VrN.keep ?_ | refine DrawN.calm (by decide +kernel) ?_ | refine Nd.mk (by decide +kernel) ?_ | refine Nd.mk (by omega) ?_ | (refine Nd.mk ?_ ?_; focus ((repeat' (first | exact trivial | exact wkE_refl _ | refine And.intro ?_ ?_)); done)) | refine RdN.intro _ rfl (by rfl) ?_); (conv => whnf))))
  refine call1 (Html_c t (by omega) _) ?_
  have hza := bs_size (s.flatMap ht)
  have hzb := bs_size (t.flatMap ht)
  ((conv => whnf); (repeat ((first | refine BoxN.own ?_ | refine VrN.norm (wrap_i64 (by omega)) ?_ | refine VrN.keep ?_ | refine DrawN.calm (by decide +kernel) ?_ | refine Nd.mk (by decide +kernel) ?_ | refine Nd.mk (by omega) ?_ | (refine Nd.mk ?_ ?_; focus ((repeat' (first | exact trivial | exact wkE_refl _ | refine And.intro ?_ ?_)); done)) | refine RdN.intro _ rfl (by rfl) ?_); (conv => whnf))))
  rw [bs_app, List.flatMap_append]
  refine brdT (by simp) ?_
  ((conv => whnf); (repeat ((first | refine BoxN.own ?_ | refine VrN.norm (wrap_i64 (by omega)) ?_ | refine VrN.keep ?_ | refine DrawN.calm (by decide +kernel) ?_ | refine Nd.mk (by decide +kernel) ?_ | refine Nd.mk (by omega) ?_ | (refine Nd.mk ?_ ?_; focus ((repeat' (first | exact trivial | exact wkE_refl _ | refine And.intro ?_ ?_)); done)) | refine RdN.intro _ rfl (by rfl) ?_); (conv => whnf))))
  refine call1 (sane_c _ fun w hw => hw.1) ?_
  ((conv => whnf); (repeat ((first | refine BoxN.own ?_ | refine VrN.norm (wrap_i64 (by omega)) ?_ | refine VrN.keep ?_ | refine DrawN.calm (by decide +kernel) ?_ | refine Nd.mk (by decide +kernel) ?_ | refine Nd.mk (by omega) ?_ | (refine Nd.mk ?_ ?_; focus ((repeat' (first | exact trivial | exact wkE_refl _ | refine And.intro ?_ ?_)); done)) | refine RdN.intro _ rfl (by rfl) ?_); (conv => whnf))))
end Go.Proofs.YtfcjgklghgpddaaGreatDoor

/-
  ErbHtmlCardSaid is proved: of every two strings ErbHtml returns true and leaves its arguments as they were; the listed tables are tied to the program's text.
-/
namespace Go.Proofs.YtfcjgklghgpddaaGreatDoor
open Go.ChangeShapes Go.WideShapes Go.ChangeAt Go.RowKit Go.AX
set_option maxRecDepth 100000

/-- What the rows list. -/
def laid3 : List (String × DataW Unit) := [("unicode/utf8.acceptRanges", Rows.laid_unicode_utf8_acceptRanges), ("unicode/utf8.first", Rows.laid_unicode_utf8_first)]
theorem door_met (os : Os) (args : Array Value) : laidMetH Tryz.prog laid3 ((World.laidAll Tryz.prog os laid3).forCall (fun _ _ => 0) ⟨#[], args, []⟩).memory := by
  rw [MakeChecks.laidMetH_plain _ _ _ (by kernel_rfl)]; exact laidMet_laidAll _ (by kernel_rfl) (by kernel_rfl)
/-- What the entries of every call know. -/
theorem known_max {W : World} (h : W.ShapedOpen Tryz.prog) : ∀ e ∈ [Ent.fact MaxF], ∃ F, e = .fact F ∧ Imm (fun b => b < W.heap.size) W F := fun _ he => ⟨_, List.mem_singleton.1 he, max_imm (max_of h)⟩

namespace ErbHtml
theorem walk {H : Type} {enc : TypeId × Value → H} (W : World) (base : Nat) (args : Array Value) (ds : List (DataW H)) (p : List MemPlace) (k : Known enc Tryz.prog Tryz.f4 W base args ds p) (_hL : laidMetH Tryz.prog laid3 W) : Walk Tryz.prog 4 args W := by
  obtain ⟨u, v, rfl⟩ := arr2 (trodAll_len k.trod).2
  obtain ⟨b, rfl, hb⟩ := k.low.string 0 rfl rfl Tryz.underlying9
  obtain ⟨c, rfl, hc⟩ := k.low.string 1 rfl rfl Tryz.underlying9
  rw [← bs_of b, ← bs_of c]
  exact walkH [.fact MaxF] (known_max k.shaped) (ErbHtml_c b.data.toList c.data.toList (by simpa using hb) (by simpa using hc) _ fun w hw => hw.1)

theorem lifted (os : Os) (started : os.Started) (H : Type) (enc : TypeId × Value → H) :
    ReturnsInHanded {} Tryz.checked os 4 .any (fun w args => (Rows.erbHtmlSpec.pre enc Tryz.prog Tryz.f4 [] false w args ∧ laidMetH Tryz.prog laid3 w) ∧ sizedMet enc Tryz.prog Tryz.f4 (OpenSpec.ofChange Rows.erbHtmlSpec) false w args) (Rows.erbHtmlSpec.post enc Tryz.prog Tryz.f4 false true false false) := by
  refine liftS (C := Tryz.checked) own started (by kernel_rfl) Tryz.func4
    (ChangeSpec.witness_shaped (enc := enc) (C := Tryz.checked) (os := os) (X := fun w _ => laidMetH Tryz.prog laid3 w) false (World.laidAll Tryz.prog os laid3) #[.string "".toUTF8, .string "".toUTF8] 8 (World.laidAll_os _ _ _) (World.shaped_of_ZipB (by kernel_rfl) (by kernel_rfl)) (by kernel_rfl) (by kernel_rfl) (by kernel_rfl) (door_met os _))
    laidOut rfl (t := _) rfl (by kernel_rfl) (by kernel_rfl) ?_ walk
  intro ds hd
  match ds, hd with
  | [d0, d1], _ => rfl

theorem over : Rows.erbHtmlRow.holds Tryz.pinned (OpenSpec.ofChange Rows.erbHtmlSpec) :=
  OpenClaim.holds_of_wide 4 Tryz.f4 rfl rfl rfl rfl rfl rfl rfl ⟨rfl, rfl, rfl, rfl, rfl⟩ rfl rfl rfl rfl rfl (by kernel_rfl) Tryz.func4 (by kernel_rfl)
    (of_decide_eq_true (by kernel_rfl)) (by unfold Func.isWrapper; first | (rw [if_pos (by decide +kernel)]; kernel_rfl) | (rw [if_neg (by decide +kernel)]; exact ⟨rfl, rfl⟩))
    (fun os started H enc _ => lifted os started H enc)

theorem proved : Rows.ErbHtmlCardSaid :=
  Claim7.holds_tied_plain_at .later [] [.data, .pinned] true (true, "c52e10096dbe4c7604fe371d64a221f2aeb5179cd959ea0d1bd5915f8a72ab80") true
    over (fun _ h => by cases h) (by kernel_rfl) (fun _ h => by cases h) erbHtml_row_tie rfl ⟨rfl, rfl⟩ (by kernel_rfl) rfl
    (fun f fn hf hfn => by
      obtain rfl : f = 4 := Option.some.inj ((show Tryz.prog.funcNamed "cabochon/cabochonlaw10.ErbHtml" = some 4 by kernel_rfl).symm.trans hf) |>.symm
      obtain rfl : fn = Tryz.f4 := (Option.some.inj (Tryz.func4.symm.trans hfn)).symm
      exact ⟨by kernel_rfl, fun j t ht => by
        have hm : t ∈ Tryz.f4.params.toList := by simpa using Array.mem_of_getElem? ht
        have hall : (Tryz.f4.params.toList.all fun u => !Tryz.prog.wantsStandIn u) = true := by kernel_rfl
        exact (show Tryz.prog.wantsStandIn t = false by simpa using List.all_eq_true.1 hall t hm)⟩)
    (by kernel_rfl)
#print axioms proved
end ErbHtml
end Go.Proofs.YtfcjgklghgpddaaGreatDoor
