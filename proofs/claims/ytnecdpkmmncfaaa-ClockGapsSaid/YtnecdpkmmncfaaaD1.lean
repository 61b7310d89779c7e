/-
  Contract of the document's Zoned.
-/
import Derived.Test.YtnecdpkmmncfaaaS2
namespace Go.Proofs.Ytnecdpkmmncfaaa
open Go.AX
set_option maxRecDepth 20000

/-- Changes as cells. -/
def chg (c : Int × Int) : List Value := [.int .i64 c.1, .int .i64 c.2]
def enc (l : List (Int × Int)) : List Value := l.flatMap chg
def zn (o : Int) (a : Option Addr) (n cap : Nat) : Value := .agg #[.int .i64 o, .slice a n cap]
theorem enc_len (l : List (Int × Int)) : (enc l).length = l.length * 2 := flat_len (g := chg) (m := 2) (fun _ => rfl) l

structure ZOK (o : Int) (l : List (Int × Int)) : Prop where
  off : -86400 ≤ o ∧ o ≤ 86400
  len : l.length ≤ 40
  all : ∀ c ∈ l, -100000 ≤ c.1 ∧ c.1 ≤ 16000000 ∧ -86400 ≤ c.2 ∧ c.2 ≤ 86400
  asc : l.Pairwise fun c d => c.1 < d.1
structure ZAt (l : List (Int × Int)) (t : Int) : Prop where
  bd : -100000 ≤ t ∧ t ≤ -100000 + 400000 * l.length
  all : ∀ c ∈ l, -100000 ≤ c.1 ∧ c.1 ≤ t ∧ -86400 ≤ c.2 ∧ c.2 ≤ 86400
  asc : l.Pairwise fun c d => c.1 < d.1
theorem ZAt.nil : ZAt [] (-100000) := ⟨by simp, fun c hc => by simp at hc, .nil⟩
theorem ZAt.snoc {l : List (Int × Int)} {t x y : Int} (h : ZAt l t) (hx : t < x ∧ x ≤ t + 400000) (hy : -86400 ≤ y ∧ y ≤ 86400) : ZAt (l ++ [(x, y)]) x := by
  refine ⟨?_, fun c hc => ?_, ?_⟩
  · have := h.bd; simp; omega
  · rcases List.mem_append.1 hc with hc | hc
    · have := h.all c hc; omega
    · simp at hc; subst hc; have := h.bd; simp; omega
  · refine List.pairwise_append.2 ⟨h.asc, by simp, fun c hc d hd => ?_⟩
    simp at hd; subst hd
    have := h.all c hc; simp; omega
theorem ZAt.ok {l : List (Int × Int)} {t o : Int} (h : ZAt l t) (hl : l.length ≤ 40) (ho : -86400 ≤ o ∧ o ≤ 86400) : ZOK o l :=
  ⟨ho, hl, fun c hc => by have := h.all c hc; have := h.bd; omega, h.asc⟩
theorem wrap_i64_u (x : Int) (h : 0 ≤ x ∧ x < 9223372036854775808) : IntKind.wrap .i64 x = x := wrap_i64 ⟨by omega, h.2⟩

structure ZSt where
  i : Nat
  t : Int
  l : List (Int × Int)
  a : Option Addr
  cap : Nat
def ZSt.v (z : ZSt) (o : Int) : List CV := [.v (.int .i64 o), .v (.slice z.a z.l.length z.cap)]

/-- What Zoned hands back. -/
def ZR (v : Value) (G : World → Prop) : Prop := ∃ o l a cap, v = zn o a l.length cap ∧ ZOK o l ∧ (a.isSome = true ∨ l = []) ∧ ∀ w, G w → SlAt a (l.length * 2) (enc l) w

theorem u193 (x : Int) : IntKind.wrap .i64 (900 * IntKind.wrap .i64 (IntKind.wrap .i64 ((IntKind.wrap .u64 x).tmod 193) - 96)) = 900 * (IntKind.wrap .u64 x % 193 - 96) := by
  have := wrap_u64_bd x
  simp (disch := omega) only [wrap_i64, Int.tmod_eq_emod_of_nonneg]
theorem u193' (x : Int) : -86400 ≤ 900 * (x % 193 - 96) ∧ 900 * (x % 193 - 96) ≤ 86400 := by omega

theorem enc_snoc (l : List (Int × Int)) (x y : Int) : enc l ++ [.int .i64 x, .int .i64 y] = enc (l ++ [(x, y)]) := by simp [enc, chg]
def zrow (z : ZSt) : Ent := .app 80 2 (enc z.l) z.a z.l.length z.cap
theorem rZoned_c (a : Option Addr) (cap : Nat) (l : List Int) (ha : a.isSome = true ∨ l = []) (hl : l.length < 1000000000000000) : SpecF Try.prog 26 [.slice a l.length cap] (SlAt a l.length (ints l)) ZR := by
  refine specF hm Try.func26 (by kernel_rfl) rfl rfl ?_
  match l, ha, hl with
  | [], ha, hl =>
    ((conv => whnf); (repeat ((first | refine VrN.norm (wrap_i64 (by omega)) ?_ | refine VrN.keep ?_ | refine DrawN.calm (by decide +kernel) ?_ | refine Nd.mk (by decide +kernel) ?_ | refine Nd.mk (by omega) ?_ | (refine Nd.mk ?_ ?_; focus ((repeat' (first | exact trivial | exact wkE_refl _ | refine And.intro ?_ ?_)); done)) | refine RdN.intro _ rfl (by rfl) ?_); (conv => whnf))))
    refine LoopN.unroll 1 ?_
    ((conv => whnf); (repeat ((first | refine VrN.norm (wrap_i64 (by omega)) ?_ | refine VrN.keep ?_ | refine DrawN.calm (by decide +kernel) ?_ | refine Nd.mk (by decide +kernel) ?_ | refine Nd.mk (by omega) ?_ | (refine Nd.mk ?_ ?_; focus ((repeat' (first | exact trivial | exact wkE_refl _ | refine And.intro ?_ ?_)); done)) | refine RdN.intro _ rfl (by rfl) ?_); (conv => whnf))))
    exact fin_p _ ⟨0, [], none, 0, rfl, ZAt.nil.ok (by simp) (by omega), .inr rfl, fun w h => h⟩ fun w _ => SlAt.nil
  | n0 :: l, ha, hl =>
    have ha' : a.isSome = true := by rcases ha with ha | ha; exact ha; cases ha
    generalize hL : n0 :: l = L at *
    have hL0 : 0 < L.length := by subst hL; simp
    clear hL ha
    ((conv => whnf); (repeat ((first | refine VrN.norm (wrap_i64 (by omega)) ?_ | refine VrN.keep ?_ | refine DrawN.calm (by decide +kernel) ?_ | refine Nd.mk (by decide +kernel) ?_ | refine Nd.mk (by omega) ?_ | (refine Nd.mk ?_ ?_; focus ((repeat' (first | exact trivial | exact wkE_refl _ | refine And.intro ?_ ?_)); done)) | refine RdN.intro _ rfl (by rfl) ?_); (conv => whnf))))
    refine brd_dec (fun h => ?_) (fun h => by omega)
    ((conv => whnf); (repeat ((first | refine VrN.norm (wrap_i64 (by omega)) ?_ | refine VrN.keep ?_ | refine DrawN.calm (by decide +kernel) ?_ | refine Nd.mk (by decide +kernel) ?_ | refine Nd.mk (by omega) ?_ | (refine Nd.mk ?_ ?_; focus ((repeat' (first | exact trivial | exact wkE_refl _ | refine And.intro ?_ ?_)); done)) | refine RdN.intro _ rfl (by rfl) ?_); (conv => whnf))))
    refine Nd.mk ⟨ha', by omega, by omega⟩ ?_
    ((conv => whnf); (repeat ((first | refine VrN.norm (wrap_i64 (by omega)) ?_ | refine VrN.keep ?_ | refine DrawN.calm (by decide +kernel) ?_ | refine Nd.mk (by decide +kernel) ?_ | refine Nd.mk (by omega) ?_ | (refine Nd.mk ?_ ?_; focus ((repeat' (first | exact trivial | exact wkE_refl _ | refine And.intro ?_ ?_)); done)) | refine RdN.intro _ rfl (by rfl) ?_); (conv => whnf))))
    have hg0 : ∃ x, L[0]? = some x := ⟨_, List.getElem?_eq_getElem hL0⟩
    obtain ⟨x, hx⟩ := hg0
    refine LdN.one (.int .i64 x) rfl (fun w hw => hw.1) (by simp [ints, hx]) ?_
    ((conv => whnf); (repeat ((first | refine VrN.norm (wrap_i64 (by omega)) ?_ | refine VrN.keep ?_ | refine DrawN.calm (by decide +kernel) ?_ | refine Nd.mk (by decide +kernel) ?_ | refine Nd.mk (by omega) ?_ | (refine Nd.mk ?_ ?_; focus ((repeat' (first | exact trivial | exact wkE_refl _ | refine And.intro ?_ ?_)); done)) | refine RdN.intro _ rfl (by rfl) ?_); (conv => whnf))))
    rw [u193]
    have hob := u193' (IntKind.wrap .u64 x)
    generalize 900 * (IntKind.wrap .u64 x % 193 - 96) = o at *
    refine LoopN.intro ZSt (fun ⟨i, t, l, a, cap⟩ => 1 ≤ i ∧ i ≤ 41 ∧ l.length + 1 = i ∧ ZAt l t ∧ (a = none → l = [] ∧ cap = 0)) (fun ⟨i, t, _, _, _⟩ => mkS 55 0 [(0, .c (.v (.slice a L.length cap))), (2, .c (.lp 1 0)), (3, .c (.lp 2 0)), (4, .c (.v (.int .i64 t))), (5, .c (.v (.int .i64 (i : Int))))])
      (fun ⟨_, _, l, b, c⟩ => [.fact (SlAt a L.length (ints L)), .blk 58 (cellsV (Value.agg #[Value.int IntKind.i64 0, Value.slice none 0 0])), .blk 58 [.v (.int .i64 o), .v (.slice b l.length c)], .app 80 2 (enc l) b l.length c]) (fun z => 41 - z.i) [.app 0 0 [] none 0 0] rfl
      (fun _ => rfl) (fun _ => rfl) (fun _ _ => okHB_eq rfl) ⟨⟨1, -100000, [], none, 0⟩, ⟨by omega, by omega, rfl, ZAt.nil, fun _ => ⟨rfl, rfl⟩⟩, ?_, ?_⟩ ?_
    · ((repeat' (first | exact trivial | refine And.intro (by with_reducible rfl) ?_ | (with_reducible exact wkC_refl _) | (with_reducible exact wkCs_refl _) | refine And.intro ?_ ?_)) <;> exact av_int (by first | rfl | omega | (simp (disch := omega) only [wrap_i64]; first | rfl | omega)))
    · (repeat' (first | exact trivial | exact wkE_refl _ | refine And.intro ?_ ?_))
      exact wkE_nil
    rintro ⟨i, t, k, b, c⟩ ⟨hi1, hi2, hk, hz, hb⟩
    ((conv => whnf); (repeat ((first | refine VrN.norm (wrap_i64 (by omega)) ?_ | refine VrN.keep ?_ | refine DrawN.calm (by decide +kernel) ?_ | refine Nd.mk (by decide +kernel) ?_ | refine Nd.mk (by omega) ?_ | (refine Nd.mk ?_ ?_; focus ((repeat' (first | exact trivial | exact wkE_refl _ | refine And.intro ?_ ?_)); done)) | refine RdN.intro _ rfl (by rfl) ?_); (conv => whnf))))
    refine brd_dec (fun h1 => ?_) (fun h1 => ?_)
    · ((conv => whnf); (repeat ((first | refine VrN.norm (wrap_i64 (by omega)) ?_ | refine VrN.keep ?_ | refine DrawN.calm (by decide +kernel) ?_ | refine Nd.mk (by decide +kernel) ?_ | refine Nd.mk (by omega) ?_ | (refine Nd.mk ?_ ?_; focus ((repeat' (first | exact trivial | exact wkE_refl _ | refine And.intro ?_ ?_)); done)) | refine RdN.intro _ rfl (by rfl) ?_); (conv => whnf))))
      refine brd_dec (fun h2 => ?_) (fun h2 => ?_)
      · ((conv => whnf); (repeat ((first | refine VrN.norm (wrap_i64 (by omega)) ?_ | refine VrN.keep ?_ | refine DrawN.calm (by decide +kernel) ?_ | refine Nd.mk (by decide +kernel) ?_ | refine Nd.mk (by omega) ?_ | (refine Nd.mk ?_ ?_; focus ((repeat' (first | exact trivial | exact wkE_refl _ | refine And.intro ?_ ?_)); done)) | refine RdN.intro _ rfl (by rfl) ?_); (conv => whnf))))
        refine Nd.mk ⟨ha', by omega, by omega⟩ ?_
        ((conv => whnf); (repeat ((first | refine VrN.norm (wrap_i64 (by omega)) ?_ | refine VrN.keep ?_ | refine DrawN.calm (by decide +kernel) ?_ | refine Nd.mk (by decide +kernel) ?_ | refine Nd.mk (by omega) ?_ | (refine Nd.mk ?_ ?_; focus ((repeat' (first | exact trivial | exact wkE_refl _ | refine And.intro ?_ ?_)); done)) | refine RdN.intro _ rfl (by rfl) ?_); (conv => whnf))))
        have hg : ∃ x, L[i]? = some x := ⟨_, List.getElem?_eq_getElem (by omega)⟩
        obtain ⟨y, hy⟩ := hg
        refine LdN.one (.int .i64 y) rfl (fun w hw => hw.1) (by show (ints L)[((i : Int)).toNat * 1]? = _; simp [ints, hy]) ?_
        ((conv => whnf); (repeat ((first | refine VrN.norm (wrap_i64 (by omega)) ?_ | refine VrN.keep ?_ | refine DrawN.calm (by decide +kernel) ?_ | refine Nd.mk (by decide +kernel) ?_ | refine Nd.mk (by omega) ?_ | (refine Nd.mk ?_ ?_; focus ((repeat' (first | exact trivial | exact wkE_refl _ | refine And.intro ?_ ?_)); done)) | refine RdN.intro _ rfl (by rfl) ?_); (conv => whnf))))
        refine Nd.mk ⟨by omega, rfl, rfl⟩ ?_
        (conv => whnf)
        refine AppN.grow 3 (enc k) _ rfl rfl ⟨by omega, ⟨by show (k.length + 1) * 16 ≤ _; omega, by omega⟩, by decide⟩ fun b' cap' h3 h4 => ?_
        ((conv => whnf); (repeat ((first | refine VrN.norm (wrap_i64 (by omega)) ?_ | refine VrN.keep ?_ | refine DrawN.calm (by decide +kernel) ?_ | refine Nd.mk (by decide +kernel) ?_ | refine Nd.mk (by omega) ?_ | (refine Nd.mk ?_ ?_; focus ((repeat' (first | exact trivial | exact wkE_refl _ | refine And.intro ?_ ?_)); done)) | refine RdN.intro _ rfl (by rfl) ?_); (conv => whnf))))
        have hu := wrap_u64_bd y
        have e1 : IntKind.i64.wrap (IntKind.i64.wrap (t + 1) + IntKind.i64.wrap ((IntKind.u64.wrap y).tmod 400000)) = t + 1 + IntKind.wrap .u64 y % 400000 := by
          have := hz.bd
          simp (disch := omega) only [wrap_i64, Int.tmod_eq_emod_of_nonneg]
        have e2 : IntKind.i64.wrap (900 * IntKind.i64.wrap (IntKind.i64.wrap ((IntKind.u64.wrap ((IntKind.u64.wrap y).tdiv 7)).tmod 193) - 96)) = 900 * (IntKind.wrap .u64 y / 7 % 193 - 96) := by
          simp (disch := omega) only [wrap_i64, wrap_u64, Int.tmod_eq_emod_of_nonneg, Int.tdiv_eq_ediv_of_nonneg]
        rw [e1, e2]
        have hz' := hz.snoc (x := t + 1 + IntKind.wrap .u64 y % 400000) (y := 900 * (IntKind.wrap .u64 y / 7 % 193 - 96)) (by omega) (by omega)
        generalize t + 1 + IntKind.wrap .u64 y % 400000 = t' at *
        generalize 900 * (IntKind.wrap .u64 y / 7 % 193 - 96) = o' at *
        refine ⟨⟨i + 1, t', k ++ [(t', o')], some ⟨b', 0, none⟩, cap'⟩, ⟨by omega, by omega, by simp [hk], hz', fun h => by cases h⟩, by show 41 - (i + 1) < 41 - i; omega, ?_, ?_⟩
        · ((repeat' (first | exact trivial | refine And.intro (by with_reducible rfl) ?_ | (with_reducible exact wkC_refl _) | (with_reducible exact wkCs_refl _) | refine And.intro ?_ ?_)) <;> exact av_int (by first | rfl | omega | (simp (disch := omega) only [wrap_i64]; first | rfl | omega)))
        · exact ⟨wkE_refl _, wkE_refl _, ⟨rfl, wkC_refl _, wkC_v (by simp), trivial⟩, .inl ⟨rfl, rfl, enc_snoc k t' o', rfl, by simp, rfl⟩, trivial⟩
      · ((conv => whnf); (repeat ((first | refine VrN.norm (wrap_i64 (by omega)) ?_ | refine VrN.keep ?_ | refine DrawN.calm (by decide +kernel) ?_ | refine Nd.mk (by decide +kernel) ?_ | refine Nd.mk (by omega) ?_ | (refine Nd.mk ?_ ?_; focus ((repeat' (first | exact trivial | exact wkE_refl _ | refine And.intro ?_ ?_)); done)) | refine RdN.intro _ rfl (by rfl) ?_); (conv => whnf))))
        refine fin_p _ ⟨o, k, b, c, rfl, hz.ok (by omega) hob, ?_, fun w h => h⟩ fun w hw => hw.2.1
        cases b with
        | none => exact .inr (hb rfl).1
        | some b => exact .inl rfl
    · ((conv => whnf); (repeat ((first | refine VrN.norm (wrap_i64 (by omega)) ?_ | refine VrN.keep ?_ | refine DrawN.calm (by decide +kernel) ?_ | refine Nd.mk (by decide +kernel) ?_ | refine Nd.mk (by omega) ?_ | (refine Nd.mk ?_ ?_; focus ((repeat' (first | exact trivial | exact wkE_refl _ | refine And.intro ?_ ?_)); done)) | refine RdN.intro _ rfl (by rfl) ?_); (conv => whnf))))
      refine fin_p _ ⟨o, k, b, c, rfl, hz.ok (by omega) hob, ?_, fun w h => h⟩ fun w hw => hw.2.1
      cases b with
      | none => exact .inr (hb rfl).1
      | some b => exact .inl rfl
end Go.Proofs.Ytnecdpkmmncfaaa
