/-
  Contracts of the law's zone and of clock's Check, offset, Offset and Local, of valid zones.
-/
import Derived.Test.YtnecdpkmmncfaaaD1
namespace Go.Proofs.Ytnecdpkmmncfaaa
open Go.AX
set_option maxRecDepth 20000

theorem enc_get (l : List (Int × Int)) (i j : Nat) (hj : j < 2) {c : Int × Int} (hc : l[i]? = some c) : (enc l)[i * 2 + j]? = (chg c)[j]? := by
  rw [enc, flat_get (g := chg) (m := 2) (fun _ => rfl) l i j hj, hc]; rfl
theorem enc_get0 (l : List (Int × Int)) (i : Nat) {c : Int × Int} (hc : l[i]? = some c) : (enc l)[i * 2 + 0]? = some (.int .i64 c.1) := enc_get l i 0 (by omega) hc
theorem enc_get1 (l : List (Int × Int)) (i : Nat) {c : Int × Int} (hc : l[i]? = some c) : (enc l)[i * 2 + 1]? = some (.int .i64 c.2) := enc_get l i 1 (by omega) hc

theorem take_one {α : Type} {l : List α} {i : Nat} {c : α} (h : l[i]? = some c) : l.take (i + 1) = l.take i ++ [c] := by
  obtain ⟨hi, rfl⟩ := List.getElem?_eq_some_iff.1 h
  exact List.take_succ_eq_append_getElem hi
/-- A zone with its cells handed on. -/
def ZC (o : Int) (l : List (Int × Int)) (v : Value) (G : World → Prop) : Prop := ∃ b cap, v = zn o b l.length cap ∧ (b.isSome = true ∨ l = []) ∧ ∀ w, G w → SlAt b (l.length * 2) (enc l) w

theorem zone_c (o : Int) (l : List (Int × Int)) (a : Option Addr) (cap : Nat) (hl : l.length ≤ 1000) (ha : a.isSome = true ∨ l = []) : SpecF Try.prog 25 [zn o a l.length cap] (SlAt a (l.length * 2) (enc l)) (ZC o l) := by
  refine specF hm Try.func25 (by kernel_rfl) rfl rfl ?_
  ((conv => whnf); (repeat ((first | refine VrN.norm (wrap_i64 (by omega)) ?_ | refine VrN.keep ?_ | refine DrawN.calm (by decide +kernel) ?_ | refine Nd.mk (by decide +kernel) ?_ | refine Nd.mk (by omega) ?_ | (refine Nd.mk ?_ ?_; focus ((repeat' (first | exact trivial | exact wkE_refl _ | refine And.intro ?_ ?_)); done)) | refine RdN.intro _ rfl (by rfl) ?_); (conv => whnf))))
  refine LoopN.intro (Nat × Option Addr × Nat) (fun ⟨i, b, c⟩ => i ≤ l.length ∧ (b = none → i = 0 ∧ c = 0)) (fun ⟨i, b, c⟩ => mkS 34 0 [(1, .c (.lp 1 0)), (2, .c (.lp 2 0)), (3, .c (.lp 3 0)), (4, .c (.v (.int .i64 (i : Int))))])
    (fun ⟨i, b, c⟩ => [.fact (SlAt a (l.length * 2) (enc l)), .blk 58 [.v (.int .i64 o), .v (.slice a l.length cap)], .blk 54 (cellsV (.agg #[.int .i64 0, .slice none 0 0])), .blk 54 [.v (.int .i64 o), .v (.slice b i c)], .app 66 2 (enc (l.take i)) b i c]) (fun ⟨i, _⟩ => l.length - i) [.app 0 0 [] none 0 0] rfl
    (fun _ => rfl) (fun _ => rfl) (fun _ _ => okHB_eq rfl) ⟨⟨0, none, 0⟩, ⟨by omega, fun _ => ⟨rfl, rfl⟩⟩, ?_, ?_⟩ ?_
  · ((repeat' (first | exact trivial | refine And.intro (by with_reducible rfl) ?_ | (with_reducible exact wkC_refl _) | (with_reducible exact wkCs_refl _) | refine And.intro ?_ ?_)) <;> exact av_int (by first | rfl | omega | (simp (disch := omega) only [wrap_i64]; first | rfl | omega)))
  · exact ⟨wkE_refl _, wkE_refl _, wkE_refl _, wkE_refl _, wkE_nil, trivial⟩
  rintro ⟨i, b, c⟩ ⟨hi1, hb⟩
  ((conv => whnf); (repeat ((first | refine VrN.norm (wrap_i64 (by omega)) ?_ | refine VrN.keep ?_ | refine DrawN.calm (by decide +kernel) ?_ | refine Nd.mk (by decide +kernel) ?_ | refine Nd.mk (by omega) ?_ | (refine Nd.mk ?_ ?_; focus ((repeat' (first | exact trivial | exact wkE_refl _ | refine And.intro ?_ ?_)); done)) | refine RdN.intro _ rfl (by rfl) ?_); (conv => whnf))))
  refine brd_dec (fun h1 => ?_) (fun h1 => ?_)
  · ((conv => whnf); (repeat ((first | refine VrN.norm (wrap_i64 (by omega)) ?_ | refine VrN.keep ?_ | refine DrawN.calm (by decide +kernel) ?_ | refine Nd.mk (by decide +kernel) ?_ | refine Nd.mk (by omega) ?_ | (refine Nd.mk ?_ ?_; focus ((repeat' (first | exact trivial | exact wkE_refl _ | refine And.intro ?_ ?_)); done)) | refine RdN.intro _ rfl (by rfl) ?_); (conv => whnf))))
    refine DrawN.plan [0, 2, 4, 8, 10] [(1, 1), (3, 1), (5, 1), (6, 1), (7, 1), (9, 1), (11, 1), (12, 1), (13, 1), (14, 1), (15, 0)] [(16, 0), (17, 0), (18, 0)] (by decide +kernel) ?_
    have hc : ∃ c, l[i]? = some c := ⟨_, List.getElem?_eq_getElem (by omega)⟩
    obtain ⟨⟨t, u⟩, hc⟩ := hc
    have ha' : a.isSome = true := by rcases ha with ha | ha; exact ha; (subst ha; simp at hc)
    ((conv => whnf); (repeat ((first | refine VrN.norm (wrap_i64 (by omega)) ?_ | refine VrN.keep ?_ | refine DrawN.calm (by decide +kernel) ?_ | refine Nd.mk (by decide +kernel) ?_ | refine Nd.mk (by omega) ?_ | (refine Nd.mk ?_ ?_; focus ((repeat' (first | exact trivial | exact wkE_refl _ | refine And.intro ?_ ?_)); done)) | refine RdN.intro _ rfl (by rfl) ?_); (conv => whnf)))); refine Nd.mk ⟨ha', by omega, by omega⟩ ?_
    ((conv => whnf); (repeat ((first | refine VrN.norm (wrap_i64 (by omega)) ?_ | refine VrN.keep ?_ | refine DrawN.calm (by decide +kernel) ?_ | refine Nd.mk (by decide +kernel) ?_ | refine Nd.mk (by omega) ?_ | (refine Nd.mk ?_ ?_; focus ((repeat' (first | exact trivial | exact wkE_refl _ | refine And.intro ?_ ?_)); done)) | refine RdN.intro _ rfl (by rfl) ?_); (conv => whnf)))); refine LdN.fld (.int .i64 t) rfl (fun w hw => hw.1) (enc_get0 l i hc) ?_
    ((conv => whnf); (repeat ((first | refine VrN.norm (wrap_i64 (by omega)) ?_ | refine VrN.keep ?_ | refine DrawN.calm (by decide +kernel) ?_ | refine Nd.mk (by decide +kernel) ?_ | refine Nd.mk (by omega) ?_ | (refine Nd.mk ?_ ?_; focus ((repeat' (first | exact trivial | exact wkE_refl _ | refine And.intro ?_ ?_)); done)) | refine RdN.intro _ rfl (by rfl) ?_); (conv => whnf)))); refine Nd.mk ⟨ha', by omega, by omega⟩ ?_
    ((conv => whnf); (repeat ((first | refine VrN.norm (wrap_i64 (by omega)) ?_ | refine VrN.keep ?_ | refine DrawN.calm (by decide +kernel) ?_ | refine Nd.mk (by decide +kernel) ?_ | refine Nd.mk (by omega) ?_ | (refine Nd.mk ?_ ?_; focus ((repeat' (first | exact trivial | exact wkE_refl _ | refine And.intro ?_ ?_)); done)) | refine RdN.intro _ rfl (by rfl) ?_); (conv => whnf)))); refine LdN.fld (.int .i64 u) rfl (fun w hw => hw.1) (enc_get1 l i hc) ?_
    ((conv => whnf); (repeat ((first | refine VrN.norm (wrap_i64 (by omega)) ?_ | refine VrN.keep ?_ | refine DrawN.calm (by decide +kernel) ?_ | refine Nd.mk (by decide +kernel) ?_ | refine Nd.mk (by omega) ?_ | (refine Nd.mk ?_ ?_; focus ((repeat' (first | exact trivial | exact wkE_refl _ | refine And.intro ?_ ?_)); done)) | refine RdN.intro _ rfl (by rfl) ?_); (conv => whnf)))); refine Nd.mk ⟨by omega, rfl, rfl⟩ ?_
    (conv => whnf)
    refine AppN.grow 4 (enc (l.take i)) _ rfl rfl ⟨by omega, ⟨by show (i + 1) * 16 ≤ _; omega, by omega⟩, by decide⟩ fun b' cap' h3 h4 => ?_
    ((conv => whnf); (repeat ((first | refine VrN.norm (wrap_i64 (by omega)) ?_ | refine VrN.keep ?_ | refine DrawN.calm (by decide +kernel) ?_ | refine Nd.mk (by decide +kernel) ?_ | refine Nd.mk (by omega) ?_ | (refine Nd.mk ?_ ?_; focus ((repeat' (first | exact trivial | exact wkE_refl _ | refine And.intro ?_ ?_)); done)) | refine RdN.intro _ rfl (by rfl) ?_); (conv => whnf))))
    refine ⟨⟨i + 1, some ⟨b', 0, none⟩, cap'⟩, ⟨by omega, fun h => by cases h⟩, by show l.length - (i + 1) < l.length - i; omega, ?_, ?_⟩
    · ((repeat' (first | exact trivial | refine And.intro (by with_reducible rfl) ?_ | (with_reducible exact wkC_refl _) | (with_reducible exact wkCs_refl _) | refine And.intro ?_ ?_)) <;> exact av_int (by first | rfl | omega | (simp (disch := omega) only [wrap_i64]; first | rfl | omega)))
    · exact ⟨wkE_refl _, wkE_refl _, wkE_refl _, wkE_refl _, .inl ⟨rfl, rfl, by rw [enc_snoc, ← take_one hc], rfl, rfl, rfl⟩, trivial⟩
  · ((conv => whnf); (repeat ((first | refine VrN.norm (wrap_i64 (by omega)) ?_ | refine VrN.keep ?_ | refine DrawN.calm (by decide +kernel) ?_ | refine Nd.mk (by decide +kernel) ?_ | refine Nd.mk (by omega) ?_ | (refine Nd.mk ?_ ?_; focus ((repeat' (first | exact trivial | exact wkE_refl _ | refine And.intro ?_ ?_)); done)) | refine RdN.intro _ rfl (by rfl) ?_); (conv => whnf))))
    have hi : i = l.length := by omega
    subst hi
    rw [List.take_length]
    refine fin_p _ ⟨b, c, rfl, ?_, fun w h => h⟩ fun w hw => hw.2.1
    cases b with
    | none => exact .inr (by have := (hb rfl).1; exact List.length_eq_zero_iff.1 this)
    | some b => exact .inl rfl

/-- The offset of a zone at a moment. -/
def offs (o : Int) (l : List (Int × Int)) (n : Int) : Int := l.foldl (fun x c => if c.1 ≤ n then c.2 else x) o
theorem offs_snoc (o : Int) (l : List (Int × Int)) (c : Int × Int) (n : Int) : offs o (l ++ [c]) n = if c.1 ≤ n then c.2 else offs o l n := by simp [offs, List.foldl_append]
theorem offset_c (o n : Int) (l : List (Int × Int)) (a : Option Addr) (cap : Nat) (hl : l.length ≤ 1000) (ha : a.isSome = true ∨ l = []) : ∀ H, (∀ w, Facts H w → SlAt a (l.length * 2) (enc l) w) → SpecH Try.prog 63 (pvs [zn o a l.length cap, .int .i64 n]) H (Ret (.int .i64 (offs o l n)) H) := by
  refine factC hm Try.func63 (by kernel_rfl) rfl rfl ?_
  ((conv => whnf); (repeat ((first | refine VrN.norm (wrap_i64 (by omega)) ?_ | refine VrN.keep ?_ | refine DrawN.calm (by decide +kernel) ?_ | refine Nd.mk (by decide +kernel) ?_ | refine Nd.mk (by omega) ?_ | (refine Nd.mk ?_ ?_; focus ((repeat' (first | exact trivial | exact wkE_refl _ | refine And.intro ?_ ?_)); done)) | refine RdN.intro _ rfl (by rfl) ?_); (conv => whnf))))
  refine loopS Nat (fun i => i ≤ l.length) (fun i => mkS 25 0 [(1, .c (.v (.int .i64 n))), (5, .c (.v (.int .i64 (offs o (l.take i) n)))), (11, .c (.v (.slice a l.length cap))), (12, .c (.v (.int .i64 (l.length : Int)))), (13, .c (.v (.int .i64 (i : Int))))]) (fun i => l.length - i) rfl (fun _ => rfl) 0 (by omega) ?_ fun i hi => ?_
  · ((repeat' (first | exact trivial | refine And.intro (by with_reducible rfl) ?_ | (with_reducible exact wkC_refl _) | (with_reducible exact wkCs_refl _) | refine And.intro ?_ ?_)) <;> exact av_int (by first | rfl | omega | (simp (disch := omega) only [wrap_i64]; first | rfl | omega)))
  ((conv => whnf); (repeat ((first | refine VrN.norm (wrap_i64 (by omega)) ?_ | refine VrN.keep ?_ | refine DrawN.calm (by decide +kernel) ?_ | refine Nd.mk (by decide +kernel) ?_ | refine Nd.mk (by omega) ?_ | (refine Nd.mk ?_ ?_; focus ((repeat' (first | exact trivial | exact wkE_refl _ | refine And.intro ?_ ?_)); done)) | refine RdN.intro _ rfl (by rfl) ?_); (conv => whnf))))
  refine brd_dec (fun h1 => ?_) (fun h1 => ?_)
  · have hc : ∃ c, l[i]? = some c := ⟨_, List.getElem?_eq_getElem (by omega)⟩
    obtain ⟨⟨t, u⟩, hc⟩ := hc
    have ha' : a.isSome = true := by rcases ha with ha | ha; exact ha; (subst ha; simp at hc)
    have hs := offs_snoc o (l.take i) (t, u) n
    rw [← take_one hc] at hs
    ((conv => whnf); (repeat ((first | refine VrN.norm (wrap_i64 (by omega)) ?_ | refine VrN.keep ?_ | refine DrawN.calm (by decide +kernel) ?_ | refine Nd.mk (by decide +kernel) ?_ | refine Nd.mk (by omega) ?_ | (refine Nd.mk ?_ ?_; focus ((repeat' (first | exact trivial | exact wkE_refl _ | refine And.intro ?_ ?_)); done)) | refine RdN.intro _ rfl (by rfl) ?_); (conv => whnf)))); refine Nd.mk ⟨ha', by omega, by omega⟩ ?_
    ((conv => whnf); (repeat ((first | refine VrN.norm (wrap_i64 (by omega)) ?_ | refine VrN.keep ?_ | refine DrawN.calm (by decide +kernel) ?_ | refine Nd.mk (by decide +kernel) ?_ | refine Nd.mk (by omega) ?_ | (refine Nd.mk ?_ ?_; focus ((repeat' (first | exact trivial | exact wkE_refl _ | refine And.intro ?_ ?_)); done)) | refine RdN.intro _ rfl (by rfl) ?_); (conv => whnf)))); refine LdN.agg [.int .i64 t, .int .i64 u] rfl (fun w hw => hw.1) rfl (fun j hj => enc_get l i j hj hc) ?_
    ((conv => whnf); (repeat ((first | refine VrN.norm (wrap_i64 (by omega)) ?_ | refine VrN.keep ?_ | refine DrawN.calm (by decide +kernel) ?_ | refine Nd.mk (by decide +kernel) ?_ | refine Nd.mk (by omega) ?_ | (refine Nd.mk ?_ ?_; focus ((repeat' (first | exact trivial | exact wkE_refl _ | refine And.intro ?_ ?_)); done)) | refine RdN.intro _ rfl (by rfl) ?_); (conv => whnf))))
    refine brd_dec (fun h2 => ?_) (fun h2 => ?_)
    · rw [if_pos h2] at hs
      ((conv => whnf); (repeat ((first | refine VrN.norm (wrap_i64 (by omega)) ?_ | refine VrN.keep ?_ | refine DrawN.calm (by decide +kernel) ?_ | refine Nd.mk (by decide +kernel) ?_ | refine Nd.mk (by omega) ?_ | (refine Nd.mk ?_ ?_; focus ((repeat' (first | exact trivial | exact wkE_refl _ | refine And.intro ?_ ?_)); done)) | refine RdN.intro _ rfl (by rfl) ?_); (conv => whnf))))
      exact ⟨i + 1, by omega, by omega, by ((repeat' (first | exact trivial | refine And.intro (by with_reducible rfl) ?_ | (with_reducible exact wkC_refl _) | (with_reducible exact wkCs_refl _) | refine And.intro ?_ ?_)) <;> exact av_int (by first | rfl | omega | (simp (disch := omega) only [wrap_i64]; first | rfl | omega))), by (repeat' (first | exact trivial | exact wkE_refl _ | refine And.intro ?_ ?_))⟩
    · rw [if_neg h2] at hs
      ((conv => whnf); (repeat ((first | refine VrN.norm (wrap_i64 (by omega)) ?_ | refine VrN.keep ?_ | refine DrawN.calm (by decide +kernel) ?_ | refine Nd.mk (by decide +kernel) ?_ | refine Nd.mk (by omega) ?_ | (refine Nd.mk ?_ ?_; focus ((repeat' (first | exact trivial | exact wkE_refl _ | refine And.intro ?_ ?_)); done)) | refine RdN.intro _ rfl (by rfl) ?_); (conv => whnf))))
      exact ⟨i + 1, by omega, by omega, by ((repeat' (first | exact trivial | refine And.intro (by with_reducible rfl) ?_ | (with_reducible exact wkC_refl _) | (with_reducible exact wkCs_refl _) | refine And.intro ?_ ?_)) <;> exact av_int (by first | rfl | omega | (simp (disch := omega) only [wrap_i64]; first | rfl | omega))), by (repeat' (first | exact trivial | exact wkE_refl _ | refine And.intro ?_ ?_))⟩
  · ((conv => whnf); (repeat ((first | refine VrN.norm (wrap_i64 (by omega)) ?_ | refine VrN.keep ?_ | refine DrawN.calm (by decide +kernel) ?_ | refine Nd.mk (by decide +kernel) ?_ | refine Nd.mk (by omega) ?_ | (refine Nd.mk ?_ ?_; focus ((repeat' (first | exact trivial | exact wkE_refl _ | refine And.intro ?_ ?_)); done)) | refine RdN.intro _ rfl (by rfl) ?_); (conv => whnf))))
    exact out_int (by rw [List.take_of_length_le (by omega)])
end Go.Proofs.Ytnecdpkmmncfaaa
