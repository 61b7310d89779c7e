/-
  Contracts of clock's Moments and Resolve, of valid zones and dates.
-/
import Derived.Test.YtnecdpkmmncfaaaD4
namespace Go.Proofs.Ytnecdpkmmncfaaa
open Go.AX
set_option maxRecDepth 20000

theorem validT (y m d h i s : Int) (hv : Cal.validP y m d h i s) (H : List Ent) : SpecH Try.prog 38 (pvs [dt y m d h i s]) H (Ret (.bool true) H) := by
  have := valid_c y m d h i s H
  rwa [Cal.validB, decide_eq_true hv] at this

/-- A slice and an error number. -/
def IE (k : List Int) (v : Value) (G : World → Prop) : Prop := ∃ b cap, v = .tuple #[.slice b k.length cap, .int .i64 0] ∧ (b.isSome = true ∨ k = []) ∧ ∀ w, G w → SlAt b k.length (ints k) w
theorem Moments_c (o y m d hh mi s : Int) (l : List (Int × Int)) (a : Option Addr) (cap : Nat) (hz : ZOK o l) (ha : a.isSome = true ∨ l = []) (hv : Cal.validP y m d hh mi s) : SpecF Try.prog 28 [zn o a l.length cap, dt y m d hh mi s] (SlAt a (l.length * 2) (enc l)) (IE (mom o l (Cal.secs y m d hh mi s))) := by
  refine specF hm Try.func28 (by kernel_rfl) rfl rfl ?_
  ((conv => whnf); (repeat ((first | refine VrN.norm (wrap_i64 (by omega)) ?_ | refine VrN.keep ?_ | refine DrawN.calm (by decide +kernel) ?_ | refine Nd.mk (by decide +kernel) ?_ | refine Nd.mk (by omega) ?_ | (refine Nd.mk ?_ ?_; focus ((repeat' (first | exact trivial | exact wkE_refl _ | refine And.intro ?_ ?_)); done)) | refine RdN.intro _ rfl (by rfl) ?_); (conv => whnf)))); refine call1 (validT y m d hh mi s hv _) ?_
  ((conv => whnf); (repeat ((first | refine VrN.norm (wrap_i64 (by omega)) ?_ | refine VrN.keep ?_ | refine DrawN.calm (by decide +kernel) ?_ | refine Nd.mk (by decide +kernel) ?_ | refine Nd.mk (by omega) ?_ | (refine Nd.mk ?_ ?_; focus ((repeat' (first | exact trivial | exact wkE_refl _ | refine And.intro ?_ ?_)); done)) | refine RdN.intro _ rfl (by rfl) ?_); (conv => whnf)))); refine call1 (Check_c o l a cap hz ha _ fun w hw => hw.1) ?_
  ((conv => whnf); (repeat ((first | refine VrN.norm (wrap_i64 (by omega)) ?_ | refine VrN.keep ?_ | refine DrawN.calm (by decide +kernel) ?_ | refine Nd.mk (by decide +kernel) ?_ | refine Nd.mk (by omega) ?_ | (refine Nd.mk ?_ ?_; focus ((repeat' (first | exact trivial | exact wkE_refl _ | refine And.intro ?_ ?_)); done)) | refine RdN.intro _ rfl (by rfl) ?_); (conv => whnf)))); refine SpecF.call (moments_c o y m d hh mi s l a cap hz ha hv) (fun w hw => hw.1) fun v G hR => ?_
  obtain ⟨b, c, rfl, hb, hG⟩ := hR
  ((conv => whnf); (repeat ((first | refine VrN.norm (wrap_i64 (by omega)) ?_ | refine VrN.keep ?_ | refine DrawN.calm (by decide +kernel) ?_ | refine Nd.mk (by decide +kernel) ?_ | refine Nd.mk (by omega) ?_ | (refine Nd.mk ?_ ?_; focus ((repeat' (first | exact trivial | exact wkE_refl _ | refine And.intro ?_ ?_)); done)) | refine RdN.intro _ rfl (by rfl) ?_); (conv => whnf))))
  exact fin_p _ ⟨b, c, rfl, hb, hG⟩ fun w hw => hw.2.1

/-- The first gap that local seconds lie in. -/
def gapV (s : Int) : Int → List (Int × Int) → Value
  | _, [] => ie 0 5
  | o, c :: l => if s ≥ c.1 + o ∧ s < c.1 + c.2 then ansM (s - o) else gapV s c.2 l
def lastO (o : Int) (k : List (Int × Int)) : Int := k.foldl (fun _ c => c.2) o
theorem lastO_snoc (o : Int) (k : List (Int × Int)) (c : Int × Int) : lastO o (k ++ [c]) = c.2 := by simp [lastO]
theorem lastO_bd {o : Int} {l : List (Int × Int)} (hz : ZOK o l) (i : Nat) (hi : i ≤ l.length) : -86400 ≤ lastO o (l.take i) ∧ lastO o (l.take i) ≤ 86400 := by
  cases i with
  | zero => exact hz.off
  | succ i =>
    have hc := List.getElem?_eq_getElem (show i < l.length by omega)
    rw [take_one hc, lastO_snoc]
    have := hz.at hc; omega
theorem drop_one {α : Type} {l : List α} {i : Nat} {c : α} (h : l[i]? = some c) : l.drop i = c :: l.drop (i + 1) := by
  obtain ⟨hi, rfl⟩ := List.getElem?_eq_some_iff.1 h
  exact List.drop_eq_getElem_cons hi
def res (o : Int) (l : List (Int × Int)) (s : Int) : Value := match mom o l s with | x :: _ => ie x 0 | [] => gapV s o l
theorem ansM_cases (n : Int) : ∃ x e, ansM n = ie x e := by unfold ansM; split <;> exact ⟨_, _, rfl⟩

theorem Resolve_c (o y m d hh mi s : Int) (l : List (Int × Int)) (a : Option Addr) (cap : Nat) (hz : ZOK o l) (ha : a.isSome = true ∨ l = []) (hv : Cal.validP y m d hh mi s) : ∀ H, (∀ w, Facts H w → SlAt a (l.length * 2) (enc l) w) →
    SpecH Try.prog 29 (pvs [zn o a l.length cap, dt y m d hh mi s]) H (Ret (res o l (Cal.secs y m d hh mi s)) H) := by
  have hll := hz.len
  have hmd := Cal.mlen_pos y m
  refine factC hm Try.func29 (by kernel_rfl) rfl rfl ?_
  ((conv => whnf); (repeat ((first | refine VrN.norm (wrap_i64 (by omega)) ?_ | refine VrN.keep ?_ | refine DrawN.calm (by decide +kernel) ?_ | refine Nd.mk (by decide +kernel) ?_ | refine Nd.mk (by omega) ?_ | (refine Nd.mk ?_ ?_; focus ((repeat' (first | exact trivial | exact wkE_refl _ | refine And.intro ?_ ?_)); done)) | refine RdN.intro _ rfl (by rfl) ?_); (conv => whnf)))); refine call1 (validT y m d hh mi s hv _) ?_
  ((conv => whnf); (repeat ((first | refine VrN.norm (wrap_i64 (by omega)) ?_ | refine VrN.keep ?_ | refine DrawN.calm (by decide +kernel) ?_ | refine Nd.mk (by decide +kernel) ?_ | refine Nd.mk (by omega) ?_ | (refine Nd.mk ?_ ?_; focus ((repeat' (first | exact trivial | exact wkE_refl _ | refine And.intro ?_ ?_)); done)) | refine RdN.intro _ rfl (by rfl) ?_); (conv => whnf)))); refine call1 (Check_c o l a cap hz ha _ fun w hw => hw.1) ?_
  ((conv => whnf); (repeat ((first | refine VrN.norm (wrap_i64 (by omega)) ?_ | refine VrN.keep ?_ | refine DrawN.calm (by decide +kernel) ?_ | refine Nd.mk (by decide +kernel) ?_ | refine Nd.mk (by omega) ?_ | (refine Nd.mk ?_ ?_; focus ((repeat' (first | exact trivial | exact wkE_refl _ | refine And.intro ?_ ?_)); done)) | refine RdN.intro _ rfl (by rfl) ?_); (conv => whnf)))); refine SpecF.call (moments_c o y m d hh mi s l a cap hz ha hv) (fun w hw => hw.1) fun v G hR => ?_
  obtain ⟨b, c, rfl, hb, hG⟩ := hR
  have hv' := hv
  unfold Cal.validP at hv'
  have hsec := seconds_c y m d hh mi s (by omega) (by omega) (by omega) (by omega) (by omega) (by omega) (by omega)
  have hs : -4000000000000 ≤ Cal.secs y m d hh mi s ∧ Cal.secs y m d hh mi s ≤ 4000000000000 := by
    have := Cal.dn_bd y m d (by omega) (by omega)
    unfold Cal.secs; omega
  unfold res
  generalize Cal.secs y m d hh mi s = sc at *
  cases hM : mom o l sc with
  | cons x k =>
    rw [hM] at hb hG
    have hb' : b.isSome = true := by rcases hb with hb | hb; exact hb; cases hb
    ((conv => whnf); (repeat ((first | refine VrN.norm (wrap_i64 (by omega)) ?_ | refine VrN.keep ?_ | refine DrawN.calm (by decide +kernel) ?_ | refine Nd.mk (by decide +kernel) ?_ | refine Nd.mk (by omega) ?_ | (refine Nd.mk ?_ ?_; focus ((repeat' (first | exact trivial | exact wkE_refl _ | refine And.intro ?_ ?_)); done)) | refine RdN.intro _ rfl (by rfl) ?_); (conv => whnf))))
    refine brd_dec (fun h1 => ?_) (fun h1 => by simp at h1)
    ((conv => whnf); (repeat ((first | refine VrN.norm (wrap_i64 (by omega)) ?_ | refine VrN.keep ?_ | refine DrawN.calm (by decide +kernel) ?_ | refine Nd.mk (by decide +kernel) ?_ | refine Nd.mk (by omega) ?_ | (refine Nd.mk ?_ ?_; focus ((repeat' (first | exact trivial | exact wkE_refl _ | refine And.intro ?_ ?_)); done)) | refine RdN.intro _ rfl (by rfl) ?_); (conv => whnf))))
    refine Nd.mk ⟨hb', by omega, by simp⟩ ?_
    ((conv => whnf); (repeat ((first | refine VrN.norm (wrap_i64 (by omega)) ?_ | refine VrN.keep ?_ | refine DrawN.calm (by decide +kernel) ?_ | refine Nd.mk (by decide +kernel) ?_ | refine Nd.mk (by omega) ?_ | (refine Nd.mk ?_ ?_; focus ((repeat' (first | exact trivial | exact wkE_refl _ | refine And.intro ?_ ?_)); done)) | refine RdN.intro _ rfl (by rfl) ?_); (conv => whnf)))); refine LdN.one (.int .i64 x) rfl (fun w hw => hG w hw.2.1) rfl ?_
    ((conv => whnf); (repeat ((first | refine VrN.norm (wrap_i64 (by omega)) ?_ | refine VrN.keep ?_ | refine DrawN.calm (by decide +kernel) ?_ | refine Nd.mk (by decide +kernel) ?_ | refine Nd.mk (by omega) ?_ | (refine Nd.mk ?_ ?_; focus ((repeat' (first | exact trivial | exact wkE_refl _ | refine And.intro ?_ ?_)); done)) | refine RdN.intro _ rfl (by rfl) ?_); (conv => whnf)))); rfl
  | nil =>
    ((conv => whnf); (repeat ((first | refine VrN.norm (wrap_i64 (by omega)) ?_ | refine VrN.keep ?_ | refine DrawN.calm (by decide +kernel) ?_ | refine Nd.mk (by decide +kernel) ?_ | refine Nd.mk (by omega) ?_ | (refine Nd.mk ?_ ?_; focus ((repeat' (first | exact trivial | exact wkE_refl _ | refine And.intro ?_ ?_)); done)) | refine RdN.intro _ rfl (by rfl) ?_); (conv => whnf)))); refine callQ (hsec _) ?_
    ((conv => whnf); (repeat ((first | refine VrN.norm (wrap_i64 (by omega)) ?_ | refine VrN.keep ?_ | refine DrawN.calm (by decide +kernel) ?_ | refine Nd.mk (by decide +kernel) ?_ | refine Nd.mk (by omega) ?_ | (refine Nd.mk ?_ ?_; focus ((repeat' (first | exact trivial | exact wkE_refl _ | refine And.intro ?_ ?_)); done)) | refine RdN.intro _ rfl (by rfl) ?_); (conv => whnf))))
    refine loopS Nat (fun i => i ≤ l.length ∧ gapV sc (lastO o (l.take i)) (l.drop i) = gapV sc o l) (fun i => mkS 63 0 [(7, .c (.v (.int .i64 (lastO o (l.take i))))), (8, .c (.v (.int .i64 sc))), (33, .c (.v (.slice a l.length cap))), (34, .c (.v (.int .i64 (l.length : Int)))), (35, .c (.v (.int .i64 (i : Int))))]) (fun i => l.length - i) rfl (fun _ => rfl) 0 ⟨by omega, rfl⟩ ?_ fun i ⟨hi, hg⟩ => ?_
    · ((repeat' (first | exact trivial | refine And.intro (by with_reducible rfl) ?_ | (with_reducible exact wkC_refl _) | (with_reducible exact wkCs_refl _) | refine And.intro ?_ ?_)) <;> exact av_int (by first | rfl | omega | (simp (disch := omega) only [wrap_i64]; first | rfl | omega)))
    have hlb := lastO_bd hz i hi
    ((conv => whnf); (repeat ((first | refine VrN.norm (wrap_i64 (by omega)) ?_ | refine VrN.keep ?_ | refine DrawN.calm (by decide +kernel) ?_ | refine Nd.mk (by decide +kernel) ?_ | refine Nd.mk (by omega) ?_ | (refine Nd.mk ?_ ?_; focus ((repeat' (first | exact trivial | exact wkE_refl _ | refine And.intro ?_ ?_)); done)) | refine RdN.intro _ rfl (by rfl) ?_); (conv => whnf))))
    refine brd_dec (fun h1 => ?_) (fun h1 => ?_)
    · have hc : ∃ c, l[i]? = some c := ⟨_, List.getElem?_eq_getElem (by omega)⟩
      obtain ⟨⟨t, u⟩, hc⟩ := hc
      have ha' : a.isSome = true := by rcases ha with ha | ha; exact ha; (subst ha; simp at hc)
      have hcb := hz.at hc
      simp only at hcb
      rw [drop_one hc, gapV] at hg
      have hls := lastO_snoc o (l.take i) (t, u)
      rw [← take_one hc] at hls
      simp only at hg hls
      generalize lastO o (l.take i) = q at *
      ((conv => whnf); (repeat ((first | refine VrN.norm (wrap_i64 (by omega)) ?_ | refine VrN.keep ?_ | refine DrawN.calm (by decide +kernel) ?_ | refine Nd.mk (by decide +kernel) ?_ | refine Nd.mk (by omega) ?_ | (refine Nd.mk ?_ ?_; focus ((repeat' (first | exact trivial | exact wkE_refl _ | refine And.intro ?_ ?_)); done)) | refine RdN.intro _ rfl (by rfl) ?_); (conv => whnf)))); refine Nd.mk ⟨ha', by omega, by omega⟩ ?_
      ((conv => whnf); (repeat ((first | refine VrN.norm (wrap_i64 (by omega)) ?_ | refine VrN.keep ?_ | refine DrawN.calm (by decide +kernel) ?_ | refine Nd.mk (by decide +kernel) ?_ | refine Nd.mk (by omega) ?_ | (refine Nd.mk ?_ ?_; focus ((repeat' (first | exact trivial | exact wkE_refl _ | refine And.intro ?_ ?_)); done)) | refine RdN.intro _ rfl (by rfl) ?_); (conv => whnf)))); refine LdN.agg [.int .i64 t, .int .i64 u] rfl (fun w hw => hw.1) rfl (fun j hj => enc_get l i j hj hc) ?_
      ((conv => whnf); (repeat ((first | refine VrN.norm (wrap_i64 (by omega)) ?_ | refine VrN.keep ?_ | refine DrawN.calm (by decide +kernel) ?_ | refine Nd.mk (by decide +kernel) ?_ | refine Nd.mk (by omega) ?_ | (refine Nd.mk ?_ ?_; focus ((repeat' (first | exact trivial | exact wkE_refl _ | refine And.intro ?_ ?_)); done)) | refine RdN.intro _ rfl (by rfl) ?_); (conv => whnf))))
      rw [wrap_i64 (show -9223372036854775808 ≤ t + q ∧ t + q < 9223372036854775808 by omega)]
      refine brd_dec (fun h2 => ?_) (fun h2 => ?_)
      · ((conv => whnf); (repeat ((first | refine VrN.norm (wrap_i64 (by omega)) ?_ | refine VrN.keep ?_ | refine DrawN.calm (by decide +kernel) ?_ | refine Nd.mk (by decide +kernel) ?_ | refine Nd.mk (by omega) ?_ | (refine Nd.mk ?_ ?_; focus ((repeat' (first | exact trivial | exact wkE_refl _ | refine And.intro ?_ ?_)); done)) | refine RdN.intro _ rfl (by rfl) ?_); (conv => whnf))))
        rw [wrap_i64 (show -9223372036854775808 ≤ t + u ∧ t + u < 9223372036854775808 by omega)]
        refine brd_dec (fun h3 => ?_) (fun h3 => ?_)
        · rw [if_pos ⟨h2, h3⟩] at hg
          rw [← hg]
          have hM := moment_c (sc - q)
          obtain ⟨x, e, hx⟩ := ansM_cases (sc - q)
          rw [hx] at hM ⊢
          ((conv => whnf); (repeat ((first | refine VrN.norm (wrap_i64 (by omega)) ?_ | refine VrN.keep ?_ | refine DrawN.calm (by decide +kernel) ?_ | refine Nd.mk (by decide +kernel) ?_ | refine Nd.mk (by omega) ?_ | (refine Nd.mk ?_ ?_; focus ((repeat' (first | exact trivial | exact wkE_refl _ | refine And.intro ?_ ?_)); done)) | refine RdN.intro _ rfl (by rfl) ?_); (conv => whnf))))
          rw [wrap_i64 (by omega)]
          refine call1 (hM _) ?_
          ((conv => whnf); (repeat ((first | refine VrN.norm (wrap_i64 (by omega)) ?_ | refine VrN.keep ?_ | refine DrawN.calm (by decide +kernel) ?_ | refine Nd.mk (by decide +kernel) ?_ | refine Nd.mk (by omega) ?_ | (refine Nd.mk ?_ ?_; focus ((repeat' (first | exact trivial | exact wkE_refl _ | refine And.intro ?_ ?_)); done)) | refine RdN.intro _ rfl (by rfl) ?_); (conv => whnf)))); rfl
        · rw [if_neg fun h => h3 h.2] at hg
          ((conv => whnf); (repeat ((first | refine VrN.norm (wrap_i64 (by omega)) ?_ | refine VrN.keep ?_ | refine DrawN.calm (by decide +kernel) ?_ | refine Nd.mk (by decide +kernel) ?_ | refine Nd.mk (by omega) ?_ | (refine Nd.mk ?_ ?_; focus ((repeat' (first | exact trivial | exact wkE_refl _ | refine And.intro ?_ ?_)); done)) | refine RdN.intro _ rfl (by rfl) ?_); (conv => whnf))))
          refine ⟨i + 1, ⟨by omega, by rw [hls]; exact hg⟩, by omega, ?_, by (repeat' (first | exact trivial | exact wkE_refl _ | refine And.intro ?_ ?_))⟩
          (repeat' (first | exact trivial | refine And.intro (by with_reducible rfl) ?_ | (with_reducible exact wkC_refl _) | (with_reducible exact wkCs_refl _) | refine And.intro ?_ ?_))
          · exact av_int hls.symm
          · exact av_int (by rw [wrap_i64 (by omega)]; omega)
      · rw [if_neg fun h => h2 h.1] at hg
        ((conv => whnf); (repeat ((first | refine VrN.norm (wrap_i64 (by omega)) ?_ | refine VrN.keep ?_ | refine DrawN.calm (by decide +kernel) ?_ | refine Nd.mk (by decide +kernel) ?_ | refine Nd.mk (by omega) ?_ | (refine Nd.mk ?_ ?_; focus ((repeat' (first | exact trivial | exact wkE_refl _ | refine And.intro ?_ ?_)); done)) | refine RdN.intro _ rfl (by rfl) ?_); (conv => whnf))))
        refine ⟨i + 1, ⟨by omega, by rw [hls]; exact hg⟩, by omega, ?_, by (repeat' (first | exact trivial | exact wkE_refl _ | refine And.intro ?_ ?_))⟩
        (repeat' (first | exact trivial | refine And.intro (by with_reducible rfl) ?_ | (with_reducible exact wkC_refl _) | (with_reducible exact wkCs_refl _) | refine And.intro ?_ ?_))
        · exact av_int hls.symm
        · exact av_int (by rw [wrap_i64 (by omega)]; omega)
    · rw [List.drop_of_length_le (by omega), gapV] at hg
      ((conv => whnf); (repeat ((first | refine VrN.norm (wrap_i64 (by omega)) ?_ | refine VrN.keep ?_ | refine DrawN.calm (by decide +kernel) ?_ | refine Nd.mk (by decide +kernel) ?_ | refine Nd.mk (by omega) ?_ | (refine Nd.mk ?_ ?_; focus ((repeat' (first | exact trivial | exact wkE_refl _ | refine And.intro ?_ ?_)); done)) | refine RdN.intro _ rfl (by rfl) ?_); (conv => whnf))))
      rw [← hg]; rfl
end Go.Proofs.Ytnecdpkmmncfaaa
