/-
  Contracts of clock's Check, Offset and Local, of valid zones.
-/
import Derived.Test.YtnecdpkmmncfaaaD2
namespace Go.Proofs.Ytnecdpkmmncfaaa
open Go.AX
set_option maxRecDepth 20000

theorem isOffset_c (n : Int) : ∀ H, SpecH Try.prog 64 (pvs [.int .i64 n]) H (Ret (.bool (decide (-86400 ≤ n ∧ n ≤ 86400))) H) := by
  refine pureC hm Try.func64 (by kernel_rfl) rfl rfl ?_
  repeat' ((conv => whnf); first | refine VrN.keep ?_ | refine brd_dec (fun h => ?_) (fun h => ?_) | refine brd_eq (fun h => ?_) (fun h => ?_) | refine brd_ne (fun h => ?_) (fun h => ?_))
  all_goals ((conv => whnf); (repeat ((refine VrN.keep ?_); (conv => whnf))))
  · exact out_bool (by simp; omega)
  · exact out_bool (by simp; omega)
theorem isOffset_t (n : Int) (h : -86400 ≤ n ∧ n ≤ 86400) (H : List Ent) : SpecH Try.prog 64 (pvs [.int .i64 n]) H (Ret (.bool true) H) := by
  have := isOffset_c n H; rwa [decide_eq_true h] at this
theorem isMoment_t (n : Int) (h : -100000000000 ≤ n ∧ n ≤ 100000000000) (H : List Ent) : SpecH Try.prog 34 (pvs [.int .i64 n]) H (Ret (.bool true) H) := by
  have := isMoment_c n H; rwa [decide_eq_true h] at this
theorem ZOK.at {o : Int} {l : List (Int × Int)} (h : ZOK o l) {i : Nat} {c : Int × Int} (hc : l[i]? = some c) : -100000 ≤ c.1 ∧ c.1 ≤ 16000000 ∧ -86400 ≤ c.2 ∧ c.2 ≤ 86400 := h.all c (List.mem_of_getElem? hc)
theorem ZOK.lt {o : Int} {l : List (Int × Int)} (h : ZOK o l) {i : Nat} {c d : Int × Int} (hc : l[i]? = some c) (hd : l[i + 1]? = some d) : c.1 < d.1 := by
  obtain ⟨h1, rfl⟩ := List.getElem?_eq_some_iff.1 hc
  obtain ⟨h2, rfl⟩ := List.getElem?_eq_some_iff.1 hd
  exact List.pairwise_iff_getElem.1 h.asc i (i + 1) h1 h2 (by omega)

theorem Check_c (o : Int) (l : List (Int × Int)) (a : Option Addr) (cap : Nat) (hz : ZOK o l) (ha : a.isSome = true ∨ l = []) : ∀ H, (∀ w, Facts H w → SlAt a (l.length * 2) (enc l) w) → SpecH Try.prog 51 (pvs [zn o a l.length cap]) H (Ret (.int .i64 0) H) := by
  have hl := hz.len
  refine factC hm Try.func51 (by kernel_rfl) rfl rfl ?_
  ((conv => whnf); (repeat ((first | refine VrN.norm (wrap_i64 (by omega)) ?_ | refine VrN.keep ?_ | refine DrawN.calm (by decide +kernel) ?_ | refine Nd.mk (by decide +kernel) ?_ | refine Nd.mk (by omega) ?_ | (refine Nd.mk ?_ ?_; focus ((repeat' (first | exact trivial | exact wkE_refl _ | refine And.intro ?_ ?_)); done)) | refine RdN.intro _ rfl (by rfl) ?_); (conv => whnf))))
  refine brd_dec (fun h => by omega) (fun _ => ?_)
  ((conv => whnf); (repeat ((first | refine VrN.norm (wrap_i64 (by omega)) ?_ | refine VrN.keep ?_ | refine DrawN.calm (by decide +kernel) ?_ | refine Nd.mk (by decide +kernel) ?_ | refine Nd.mk (by omega) ?_ | (refine Nd.mk ?_ ?_; focus ((repeat' (first | exact trivial | exact wkE_refl _ | refine And.intro ?_ ?_)); done)) | refine RdN.intro _ rfl (by rfl) ?_); (conv => whnf))))
  refine call1 (isOffset_t o hz.off _) ?_
  ((conv => whnf); (repeat ((first | refine VrN.norm (wrap_i64 (by omega)) ?_ | refine VrN.keep ?_ | refine DrawN.calm (by decide +kernel) ?_ | refine Nd.mk (by decide +kernel) ?_ | refine Nd.mk (by omega) ?_ | (refine Nd.mk ?_ ?_; focus ((repeat' (first | exact trivial | exact wkE_refl _ | refine And.intro ?_ ?_)); done)) | refine RdN.intro _ rfl (by rfl) ?_); (conv => whnf))))
  refine loopS Nat (fun i => i ≤ l.length) (fun i => mkS 53 0 [(1, .c (.lp 1 0)), (3, .c (.v (.func (.func 64) #[] #[]))), (18, .c (.v (.slice a l.length cap))), (19, .c (.v (.int .i64 (l.length : Int)))), (20, .c (.v (.int .i64 (i : Int))))]) (fun i => l.length - i) rfl (fun _ => rfl) 0 (by omega) ?_ fun i hi => ?_
  · ((repeat' (first | exact trivial | refine And.intro (by with_reducible rfl) ?_ | (with_reducible exact wkC_refl _) | (with_reducible exact wkCs_refl _) | refine And.intro ?_ ?_)) <;> exact av_int (by first | rfl | omega | (simp (disch := omega) only [wrap_i64]; first | rfl | omega)))
  ((conv => whnf); (repeat ((first | refine VrN.norm (wrap_i64 (by omega)) ?_ | refine VrN.keep ?_ | refine DrawN.calm (by decide +kernel) ?_ | refine Nd.mk (by decide +kernel) ?_ | refine Nd.mk (by omega) ?_ | (refine Nd.mk ?_ ?_; focus ((repeat' (first | exact trivial | exact wkE_refl _ | refine And.intro ?_ ?_)); done)) | refine RdN.intro _ rfl (by rfl) ?_); (conv => whnf))))
  refine brd_dec (fun h1 => ?_) (fun h1 => ?_)
  · have hc : ∃ c, l[i]? = some c := ⟨_, List.getElem?_eq_getElem (by omega)⟩
    obtain ⟨⟨t, u⟩, hc⟩ := hc
    have ha' : a.isSome = true := by rcases ha with ha | ha; exact ha; (subst ha; simp at hc)
    have hb := hz.at hc
    simp only at hb
    ((conv => whnf); (repeat ((first | refine VrN.norm (wrap_i64 (by omega)) ?_ | refine VrN.keep ?_ | refine DrawN.calm (by decide +kernel) ?_ | refine Nd.mk (by decide +kernel) ?_ | refine Nd.mk (by omega) ?_ | (refine Nd.mk ?_ ?_; focus ((repeat' (first | exact trivial | exact wkE_refl _ | refine And.intro ?_ ?_)); done)) | refine RdN.intro _ rfl (by rfl) ?_); (conv => whnf)))); refine Nd.mk ⟨ha', by omega, by omega⟩ ?_
    ((conv => whnf); (repeat ((first | refine VrN.norm (wrap_i64 (by omega)) ?_ | refine VrN.keep ?_ | refine DrawN.calm (by decide +kernel) ?_ | refine Nd.mk (by decide +kernel) ?_ | refine Nd.mk (by omega) ?_ | (refine Nd.mk ?_ ?_; focus ((repeat' (first | exact trivial | exact wkE_refl _ | refine And.intro ?_ ?_)); done)) | refine RdN.intro _ rfl (by rfl) ?_); (conv => whnf)))); refine LdN.agg [.int .i64 t, .int .i64 u] rfl (fun w hw => hw.1) rfl (fun j hj => enc_get l i j hj hc) ?_
    ((conv => whnf); (repeat ((first | refine VrN.norm (wrap_i64 (by omega)) ?_ | refine VrN.keep ?_ | refine DrawN.calm (by decide +kernel) ?_ | refine Nd.mk (by decide +kernel) ?_ | refine Nd.mk (by omega) ?_ | (refine Nd.mk ?_ ?_; focus ((repeat' (first | exact trivial | exact wkE_refl _ | refine And.intro ?_ ?_)); done)) | refine RdN.intro _ rfl (by rfl) ?_); (conv => whnf)))); refine callQ (isMoment_t t (by omega) _) ?_
    ((conv => whnf); (repeat ((first | refine VrN.norm (wrap_i64 (by omega)) ?_ | refine VrN.keep ?_ | refine DrawN.calm (by decide +kernel) ?_ | refine Nd.mk (by decide +kernel) ?_ | refine Nd.mk (by omega) ?_ | (refine Nd.mk ?_ ?_; focus ((repeat' (first | exact trivial | exact wkE_refl _ | refine And.intro ?_ ?_)); done)) | refine RdN.intro _ rfl (by rfl) ?_); (conv => whnf)))); refine callQ (isOffset_t u (by omega) _) ?_
    ((conv => whnf); (repeat ((first | refine VrN.norm (wrap_i64 (by omega)) ?_ | refine VrN.keep ?_ | refine DrawN.calm (by decide +kernel) ?_ | refine Nd.mk (by decide +kernel) ?_ | refine Nd.mk (by omega) ?_ | (refine Nd.mk ?_ ?_; focus ((repeat' (first | exact trivial | exact wkE_refl _ | refine And.intro ?_ ?_)); done)) | refine RdN.intro _ rfl (by rfl) ?_); (conv => whnf))))
    refine brd_dec (fun h2 => ?_) (fun h2 => ?_)
    · ((conv => whnf); (repeat ((first | refine VrN.norm (wrap_i64 (by omega)) ?_ | refine VrN.keep ?_ | refine DrawN.calm (by decide +kernel) ?_ | refine Nd.mk (by decide +kernel) ?_ | refine Nd.mk (by omega) ?_ | (refine Nd.mk ?_ ?_; focus ((repeat' (first | exact trivial | exact wkE_refl _ | refine And.intro ?_ ?_)); done)) | refine RdN.intro _ rfl (by rfl) ?_); (conv => whnf))))
      rw [show IntKind.wrap .i64 ((i : Int) - 1) = ((i - 1 : Nat) : Int) by rw [wrap_i64 (by omega)]; omega]
      have hd : ∃ d, l[i - 1]? = some d := ⟨_, List.getElem?_eq_getElem (by omega)⟩
      obtain ⟨⟨t', u'⟩, hd⟩ := hd
      have hlt := hz.lt hd (by rw [show i - 1 + 1 = i by omega]; exact hc)
      simp only at hlt
      refine Nd.mk ⟨ha', by omega, by omega⟩ ?_
      ((conv => whnf); (repeat ((first | refine VrN.norm (wrap_i64 (by omega)) ?_ | refine VrN.keep ?_ | refine DrawN.calm (by decide +kernel) ?_ | refine Nd.mk (by decide +kernel) ?_ | refine Nd.mk (by omega) ?_ | (refine Nd.mk ?_ ?_; focus ((repeat' (first | exact trivial | exact wkE_refl _ | refine And.intro ?_ ?_)); done)) | refine RdN.intro _ rfl (by rfl) ?_); (conv => whnf)))); refine LdN.fld (.int .i64 t') rfl (fun w hw => hw.1) (enc_get0 l (i - 1) hd) ?_
      ((conv => whnf); (repeat ((first | refine VrN.norm (wrap_i64 (by omega)) ?_ | refine VrN.keep ?_ | refine DrawN.calm (by decide +kernel) ?_ | refine Nd.mk (by decide +kernel) ?_ | refine Nd.mk (by omega) ?_ | (refine Nd.mk ?_ ?_; focus ((repeat' (first | exact trivial | exact wkE_refl _ | refine And.intro ?_ ?_)); done)) | refine RdN.intro _ rfl (by rfl) ?_); (conv => whnf))))
      refine brd_dec (fun h3 => by omega) (fun h3 => ?_)
      ((conv => whnf); (repeat ((first | refine VrN.norm (wrap_i64 (by omega)) ?_ | refine VrN.keep ?_ | refine DrawN.calm (by decide +kernel) ?_ | refine Nd.mk (by decide +kernel) ?_ | refine Nd.mk (by omega) ?_ | (refine Nd.mk ?_ ?_; focus ((repeat' (first | exact trivial | exact wkE_refl _ | refine And.intro ?_ ?_)); done)) | refine RdN.intro _ rfl (by rfl) ?_); (conv => whnf))))
      exact ⟨i + 1, by omega, by omega, by ((repeat' (first | exact trivial | refine And.intro (by with_reducible rfl) ?_ | (with_reducible exact wkC_refl _) | (with_reducible exact wkCs_refl _) | refine And.intro ?_ ?_)) <;> exact av_int (by first | rfl | omega | (simp (disch := omega) only [wrap_i64]; first | rfl | omega))), by (repeat' (first | exact trivial | exact wkE_refl _ | refine And.intro ?_ ?_))⟩
    · ((conv => whnf); (repeat ((first | refine VrN.norm (wrap_i64 (by omega)) ?_ | refine VrN.keep ?_ | refine DrawN.calm (by decide +kernel) ?_ | refine Nd.mk (by decide +kernel) ?_ | refine Nd.mk (by omega) ?_ | (refine Nd.mk ?_ ?_; focus ((repeat' (first | exact trivial | exact wkE_refl _ | refine And.intro ?_ ?_)); done)) | refine RdN.intro _ rfl (by rfl) ?_); (conv => whnf))))
      exact ⟨i + 1, by omega, by omega, by ((repeat' (first | exact trivial | refine And.intro (by with_reducible rfl) ?_ | (with_reducible exact wkC_refl _) | (with_reducible exact wkCs_refl _) | refine And.intro ?_ ?_)) <;> exact av_int (by first | rfl | omega | (simp (disch := omega) only [wrap_i64]; first | rfl | omega))), by (repeat' (first | exact trivial | exact wkE_refl _ | refine And.intro ?_ ?_))⟩
  · ((conv => whnf); (repeat ((first | refine VrN.norm (wrap_i64 (by omega)) ?_ | refine VrN.keep ?_ | refine DrawN.calm (by decide +kernel) ?_ | refine Nd.mk (by decide +kernel) ?_ | refine Nd.mk (by omega) ?_ | (refine Nd.mk ?_ ?_; focus ((repeat' (first | exact trivial | exact wkE_refl _ | refine And.intro ?_ ?_)); done)) | refine RdN.intro _ rfl (by rfl) ?_); (conv => whnf))))
theorem Offset_c (o n : Int) (l : List (Int × Int)) (a : Option Addr) (cap : Nat) (hz : ZOK o l) (ha : a.isSome = true ∨ l = []) (hn : -100000000000 ≤ n ∧ n ≤ 100000000000) : ∀ H, (∀ w, Facts H w → SlAt a (l.length * 2) (enc l) w) → SpecH Try.prog 50 (pvs [zn o a l.length cap, .int .i64 n]) H (Ret (ie (offs o l n) 0) H) := by
  have hl := hz.len
  refine factC hm Try.func50 (by kernel_rfl) rfl rfl ?_
  ((conv => whnf); (repeat ((first | refine VrN.norm (wrap_i64 (by omega)) ?_ | refine VrN.keep ?_ | refine DrawN.calm (by decide +kernel) ?_ | refine Nd.mk (by decide +kernel) ?_ | refine Nd.mk (by omega) ?_ | (refine Nd.mk ?_ ?_; focus ((repeat' (first | exact trivial | exact wkE_refl _ | refine And.intro ?_ ?_)); done)) | refine RdN.intro _ rfl (by rfl) ?_); (conv => whnf)))); refine call1 (Check_c o l a cap hz ha _ fun w hw => hw.1) ?_
  ((conv => whnf); (repeat ((first | refine VrN.norm (wrap_i64 (by omega)) ?_ | refine VrN.keep ?_ | refine DrawN.calm (by decide +kernel) ?_ | refine Nd.mk (by decide +kernel) ?_ | refine Nd.mk (by omega) ?_ | (refine Nd.mk ?_ ?_; focus ((repeat' (first | exact trivial | exact wkE_refl _ | refine And.intro ?_ ?_)); done)) | refine RdN.intro _ rfl (by rfl) ?_); (conv => whnf)))); refine call1 (isMoment_t n hn _) ?_
  ((conv => whnf); (repeat ((first | refine VrN.norm (wrap_i64 (by omega)) ?_ | refine VrN.keep ?_ | refine DrawN.calm (by decide +kernel) ?_ | refine Nd.mk (by decide +kernel) ?_ | refine Nd.mk (by omega) ?_ | (refine Nd.mk ?_ ?_; focus ((repeat' (first | exact trivial | exact wkE_refl _ | refine And.intro ?_ ?_)); done)) | refine RdN.intro _ rfl (by rfl) ?_); (conv => whnf)))); refine call1 (offset_c o n l a cap (by omega) ha _ fun w hw => hw.1) ?_
  ((conv => whnf); (repeat ((first | refine VrN.norm (wrap_i64 (by omega)) ?_ | refine VrN.keep ?_ | refine DrawN.calm (by decide +kernel) ?_ | refine Nd.mk (by decide +kernel) ?_ | refine Nd.mk (by omega) ?_ | (refine Nd.mk ?_ ?_; focus ((repeat' (first | exact trivial | exact wkE_refl _ | refine And.intro ?_ ?_)); done)) | refine RdN.intro _ rfl (by rfl) ?_); (conv => whnf)))); rfl
theorem offs_bd {o : Int} {l : List (Int × Int)} (hz : ZOK o l) (n : Int) : -86400 ≤ offs o l n ∧ offs o l n ≤ 86400 := by
  have key : ∀ (l : List (Int × Int)) (x : Int), -86400 ≤ x ∧ x ≤ 86400 → (∀ c ∈ l, -86400 ≤ c.2 ∧ c.2 ≤ 86400) → -86400 ≤ offs x l n ∧ offs x l n ≤ 86400 := by
    intro l
    induction l with
    | nil => intro x hx _; exact hx
    | cons c l ih =>
      intro x hx hc
      simp only [offs, List.foldl_cons]
      refine ih _ ?_ fun d hd => hc d (by simp [hd])
      split
      · exact hc c (by simp)
      · exact hx
  exact key l o hz.off fun c hc => by have := hz.all c hc; omega
theorem Local_c (o n : Int) (l : List (Int × Int)) (a : Option Addr) (cap : Nat) (hz : ZOK o l) (ha : a.isSome = true ∨ l = []) (hn : -100000000000 ≤ n ∧ n ≤ 100000000000) : ∀ H, (∀ w, Facts H w → SlAt a (l.length * 2) (enc l) w) → SpecH Try.prog 27 (pvs [zn o a l.length cap, .int .i64 n]) H (Ret (de (dtOf (n + offs o l n)) 0) H) := by
  have hb := offs_bd hz n
  refine factC hm Try.func27 (by kernel_rfl) rfl rfl ?_
  ((conv => whnf); (repeat ((first | refine VrN.norm (wrap_i64 (by omega)) ?_ | refine VrN.keep ?_ | refine DrawN.calm (by decide +kernel) ?_ | refine Nd.mk (by decide +kernel) ?_ | refine Nd.mk (by omega) ?_ | (refine Nd.mk ?_ ?_; focus ((repeat' (first | exact trivial | exact wkE_refl _ | refine And.intro ?_ ?_)); done)) | refine RdN.intro _ rfl (by rfl) ?_); (conv => whnf)))); refine call1 (Offset_c o n l a cap hz ha hn _ fun w hw => hw.1) ?_
  ((conv => whnf); (repeat ((refine VrN.keep ?_); (conv => whnf)))); rw [wrap_i64 (by omega)]
  refine call1 (of_c _ (by omega) _) ?_
  ((conv => whnf); (repeat ((first | refine VrN.norm (wrap_i64 (by omega)) ?_ | refine VrN.keep ?_ | refine DrawN.calm (by decide +kernel) ?_ | refine Nd.mk (by decide +kernel) ?_ | refine Nd.mk (by omega) ?_ | (refine Nd.mk ?_ ?_; focus ((repeat' (first | exact trivial | exact wkE_refl _ | refine And.intro ?_ ?_)); done)) | refine RdN.intro _ rfl (by rfl) ?_); (conv => whnf)))); rfl
end Go.Proofs.Ytnecdpkmmncfaaa
