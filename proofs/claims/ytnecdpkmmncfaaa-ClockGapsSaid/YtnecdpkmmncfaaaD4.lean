/-
  Contract of clock's moments, of valid zones and dates.
-/
import Derived.Test.YtnecdpkmmncfaaaD3
namespace Go.Proofs.Ytnecdpkmmncfaaa
open Go.AX
set_option maxRecDepth 20000

/-- The moments of a number of local seconds, as they are found. -/
def hit (o : Int) (l : List (Int × Int)) (s : Int) (c : Int × Int) : Option Int := if (-100000000000 ≤ s - c.2 ∧ s - c.2 ≤ 100000000000) ∧ offs o l (s - c.2) = c.2 then some (s - c.2) else none
def raw (o : Int) (l : List (Int × Int)) (s : Int) (k : List (Int × Int)) : List Int := k.filterMap (hit o l s)
def mom (o : Int) (l : List (Int × Int)) (s : Int) : List Int := Lib.compact ((raw o l s ((0, o) :: l)).mergeSort fun x y => decide (x ≤ y))
theorem raw_len (o : Int) (l : List (Int × Int)) (s : Int) (k : List (Int × Int)) : (raw o l s k).length ≤ k.length := List.length_filterMap_le _ _
theorem raw_snoc (o : Int) (l : List (Int × Int)) (s : Int) (k : List (Int × Int)) (c : Int × Int) : raw o l s (k ++ [c]) = raw o l s k ++ (hit o l s c).toList := by
  simp only [raw, List.filterMap_append, List.filterMap_cons, List.filterMap_nil]
  cases hit o l s c <;> rfl
def ad (b : Option Nat) : Option Addr := b.map fun b => ⟨b, 0, none⟩

/-- A slice of whole numbers that is handed on. -/
def IR (k : List Int) (v : Value) (G : World → Prop) : Prop := ∃ b cap, v = .slice b k.length cap ∧ (b.isSome = true ∨ k = []) ∧ ∀ w, G w → SlAt b k.length (ints k) w

theorem zall {o : Int} {l : List (Int × Int)} (hz : ZOK o l) {i : Nat} {c : Int × Int} (hc : ((0, o) :: l)[i]? = some c) : -86400 ≤ c.2 ∧ c.2 ≤ 86400 := by
  cases i with
  | zero => simp at hc; subst hc; exact hz.off
  | succ i => have := hz.at (i := i) (by simpa using hc); omega
theorem vs_drop (n : Nat) (xs : List Value) : (vs xs).drop n = vs (xs.drop n) := by simp [vs_eq]
theorem vs_take (n : Nat) (xs : List Value) : (vs xs).take n = vs (xs.take n) := by simp [vs_eq]
theorem row_get (l : List (Int × Int)) {i : Nat} {c : Int × Int} (hc : l[i]? = some c) : ((vs (enc l)).drop (i * 2)).take 2 = [.v (.int .i64 c.1), .v (.int .i64 c.2)] := by
  rw [vs_drop, vs_take]
  have h0 := enc_get0 l i hc
  have h1 := enc_get1 l i hc
  have : (List.drop (i * 2) (enc l)).take 2 = [.int .i64 c.1, .int .i64 c.2] := by
    apply List.ext_getElem?
    intro j
    rw [List.getElem?_take, List.getElem?_drop]
    match j with
    | 0 => simpa using h0
    | 1 => simpa using h1
    | j + 2 => rw [if_neg (by omega)]; rfl
  rw [this]; rfl
theorem moments_c (o y m d hh mi s : Int) (l : List (Int × Int)) (a : Option Addr) (cap : Nat) (hz : ZOK o l) (ha : a.isSome = true ∨ l = []) (hv : Cal.validP y m d hh mi s) : SpecF Try.prog 52 [zn o a l.length cap, dt y m d hh mi s] (SlAt a (l.length * 2) (enc l)) (IR (mom o l (Cal.secs y m d hh mi s))) := by
  unfold Cal.validP at hv
  have hmd := Cal.mlen_pos y m
  have hll := hz.len
  refine specF hm Try.func52 (by kernel_rfl) rfl rfl ?_
  ((conv => whnf); (repeat ((first | refine VrN.norm (wrap_i64 (by omega)) ?_ | refine VrN.keep ?_ | refine DrawN.calm (by decide +kernel) ?_ | refine Nd.mk (by decide +kernel) ?_ | refine Nd.mk (by omega) ?_ | (refine Nd.mk ?_ ?_; focus ((repeat' (first | exact trivial | exact wkE_refl _ | refine And.intro ?_ ?_)); done)) | refine RdN.intro _ rfl (by rfl) ?_); (conv => whnf))))
  refine brd_intro (fun h => ?_) (fun h => ?_)
  · have hl0 : l = [] := by have := Nat.eq_of_beq_eq_true h; exact List.length_eq_zero_iff.1 this
    ((conv => whnf); (repeat ((first | refine VrN.norm (wrap_i64 (by omega)) ?_ | refine VrN.keep ?_ | refine DrawN.calm (by decide +kernel) ?_ | refine Nd.mk (by decide +kernel) ?_ | refine Nd.mk (by omega) ?_ | (refine Nd.mk ?_ ?_; focus ((repeat' (first | exact trivial | exact wkE_refl _ | refine And.intro ?_ ?_)); done)) | refine RdN.intro _ rfl (by rfl) ?_); (conv => whnf))))
    refine LoopN.intro (Nat × Option Nat × Nat) (fun ⟨i, b, c⟩ => i ≤ l.length + 1 ∧ (b = none → raw o l (Cal.secs y m d hh mi s) (((0, o) :: l).take i) = [] ∧ c = 0))
      (fun ⟨i, b, c⟩ => mkS 45 0 [(2, .c (.lp 1 0)), (3, .c (.lp 2 0)), (5, .c (.v (.slice (ad b) (raw o l (Cal.secs y m d hh mi s) (((0, o) :: l).take i)).length c))), (15, .c (.sl 3 (l.length + 1))), (16, .c (.v (.int .i64 ((l.length + 1 : Nat) : Int)))), (17, .c (.v (.int .i64 (i : Int))))])
      (fun ⟨i, b, c⟩ => [.fact (SlAt a (l.length * 2) (enc l)), .blk 54 [.v (.int .i64 o), .v (.slice a l.length cap)], .blk 23 (cellsV (dt y m d hh mi s)), .row 66 2 (l.length + 1) (vs (enc ((0, o) :: l))), .app 3 1 (ints (raw o l (Cal.secs y m d hh mi s) (((0, o) :: l).take i))) (ad b) (raw o l (Cal.secs y m d hh mi s) (((0, o) :: l).take i)).length c]) (fun ⟨i, _⟩ => l.length + 1 - i) [.app 0 0 [] none 0 0] rfl
      (fun _ => rfl) (fun _ => rfl) (fun ⟨_, _, _⟩ _ => ⟨trivial, ⟨trivial, trivial, trivial⟩, okCs_vs _ (dt y m d hh mi s).cells.toList, okCs_vs _ _, trivial, trivial⟩) ⟨⟨0, none, 0⟩, ⟨by omega, fun _ => ⟨rfl, rfl⟩⟩, ?_, ?_⟩ ?_
    · (repeat' (first | exact trivial | refine And.intro (by with_reducible rfl) ?_ | (with_reducible exact wkC_refl _) | (with_reducible exact wkCs_refl _) | refine And.intro ?_ ?_))
      all_goals (first | rfl | (simp [hl0]; done))
    · exact ⟨wkE_refl _, wkE_refl _, wkE_refl _, ⟨rfl, rfl, by rw [hl0]; rfl, by rw [hl0]; rfl⟩, wkE_nil, trivial⟩
    rintro ⟨i, b, c⟩ ⟨hi1, hb⟩
    ((conv => whnf); (repeat ((first | refine VrN.norm (wrap_i64 (by omega)) ?_ | refine VrN.keep ?_ | refine DrawN.calm (by decide +kernel) ?_ | refine Nd.mk (by decide +kernel) ?_ | refine Nd.mk (by omega) ?_ | (refine Nd.mk ?_ ?_; focus ((repeat' (first | exact trivial | exact wkE_refl _ | refine And.intro ?_ ?_)); done)) | refine RdN.intro _ rfl (by rfl) ?_); (conv => whnf))))
    refine brd_dec (fun h1 => ?_) (fun h1 => ?_)
    · have hi : i < l.length + 1 := by omega
      have hc : ∃ c, ((0, o) :: l)[i]? = some c := ⟨_, List.getElem?_eq_getElem (by simpa using hi)⟩
      obtain ⟨⟨t, u⟩, hc⟩ := hc
      have hub := zall hz hc
      have hto := take_one hc
      have hrs := raw_snoc o l (Cal.secs y m d hh mi s) (((0, o) :: l).take i) (t, u)
      rw [← hto] at hrs
      have hrl := raw_len o l (Cal.secs y m d hh mi s) (((0, o) :: l).take i)
      have htl : (((0, o) :: l).take i).length ≤ 41 := by simp; omega
      ((conv => whnf); (repeat ((first | refine VrN.norm (wrap_i64 (by omega)) ?_ | refine VrN.keep ?_ | refine DrawN.calm (by decide +kernel) ?_ | refine Nd.mk (by decide +kernel) ?_ | refine Nd.mk (by omega) ?_ | (refine Nd.mk ?_ ?_; focus ((repeat' (first | exact trivial | exact wkE_refl _ | refine And.intro ?_ ?_)); done)) | refine RdN.intro _ rfl (by rfl) ?_); (conv => whnf)))); refine RdN.intro [.v (.int .i64 t), .v (.int .i64 u)] (row_get ((0, o) :: l) hc) rfl ?_
      ((conv => whnf); (repeat ((first | refine VrN.norm (wrap_i64 (by omega)) ?_ | refine VrN.keep ?_ | refine DrawN.calm (by decide +kernel) ?_ | refine Nd.mk (by decide +kernel) ?_ | refine Nd.mk (by omega) ?_ | (refine Nd.mk ?_ ?_; focus ((repeat' (first | exact trivial | exact wkE_refl _ | refine And.intro ?_ ?_)); done)) | refine RdN.intro _ rfl (by rfl) ?_); (conv => whnf)))); refine callQ (seconds_c y m d hh mi s (by omega) (by omega) (by omega) (by omega) (by omega) (by omega) (by omega) _) ?_
      ((conv => whnf); (repeat ((refine VrN.keep ?_); (conv => whnf))))
      have hs : -4000000000000 ≤ Cal.secs y m d hh mi s ∧ Cal.secs y m d hh mi s ≤ 4000000000000 := by
        have := Cal.dn_bd y m d (by omega) (by omega)
        unfold Cal.secs; omega
      rw [wrap_i64 (by omega)]
      generalize Cal.secs y m d hh mi s = sc at *
      ((conv => whnf); (repeat ((first | refine VrN.norm (wrap_i64 (by omega)) ?_ | refine VrN.keep ?_ | refine DrawN.calm (by decide +kernel) ?_ | refine Nd.mk (by decide +kernel) ?_ | refine Nd.mk (by omega) ?_ | (refine Nd.mk ?_ ?_; focus ((repeat' (first | exact trivial | exact wkE_refl _ | refine And.intro ?_ ?_)); done)) | refine RdN.intro _ rfl (by rfl) ?_); (conv => whnf)))); refine callQ (isMoment_c (sc - u) _) ?_
      ((conv => whnf); (repeat ((first | refine VrN.norm (wrap_i64 (by omega)) ?_ | refine VrN.keep ?_ | refine DrawN.calm (by decide +kernel) ?_ | refine Nd.mk (by decide +kernel) ?_ | refine Nd.mk (by omega) ?_ | (refine Nd.mk ?_ ?_; focus ((repeat' (first | exact trivial | exact wkE_refl _ | refine And.intro ?_ ?_)); done)) | refine RdN.intro _ rfl (by rfl) ?_); (conv => whnf))))
      refine brd_dec (fun h2 => ?_) (fun h2 => ?_)
      · ((conv => whnf); (repeat ((first | refine VrN.norm (wrap_i64 (by omega)) ?_ | refine VrN.keep ?_ | refine DrawN.calm (by decide +kernel) ?_ | refine Nd.mk (by decide +kernel) ?_ | refine Nd.mk (by omega) ?_ | (refine Nd.mk ?_ ?_; focus ((repeat' (first | exact trivial | exact wkE_refl _ | refine And.intro ?_ ?_)); done)) | refine RdN.intro _ rfl (by rfl) ?_); (conv => whnf)))); refine callQ (offset_c o (sc - u) l a cap (by omega) ha _ fun w hw => hw.1) ?_
        ((conv => whnf); (repeat ((first | refine VrN.norm (wrap_i64 (by omega)) ?_ | refine VrN.keep ?_ | refine DrawN.calm (by decide +kernel) ?_ | refine Nd.mk (by decide +kernel) ?_ | refine Nd.mk (by omega) ?_ | (refine Nd.mk ?_ ?_; focus ((repeat' (first | exact trivial | exact wkE_refl _ | refine And.intro ?_ ?_)); done)) | refine RdN.intro _ rfl (by rfl) ?_); (conv => whnf))))
        refine brd_eq (fun h3 => ?_) (fun h3 => ?_)
        · have hh : hit o l sc (t, u) = some (sc - u) := by rw [hit, if_pos ⟨h2, h3⟩]
          rw [hh] at hrs
          ((conv => whnf); (repeat ((first | refine VrN.norm (wrap_i64 (by omega)) ?_ | refine VrN.keep ?_ | refine DrawN.calm (by decide +kernel) ?_ | refine Nd.mk (by decide +kernel) ?_ | refine Nd.mk (by omega) ?_ | (refine Nd.mk ?_ ?_; focus ((repeat' (first | exact trivial | exact wkE_refl _ | refine And.intro ?_ ?_)); done)) | refine RdN.intro _ rfl (by rfl) ?_); (conv => whnf))))
          refine Nd.mk ⟨by omega, rfl, rfl⟩ ?_
          (conv => whnf)
          refine AppN.grow 4 (ints (raw o l sc (((0, o) :: l).take i))) _ rfl rfl ⟨by omega, ⟨by show (_ + 1) * 8 ≤ _; omega, by omega⟩, by decide⟩ fun b' cap' h3 h4 => ?_
          ((conv => whnf); (repeat ((first | refine VrN.norm (wrap_i64 (by omega)) ?_ | refine VrN.keep ?_ | refine DrawN.calm (by decide +kernel) ?_ | refine Nd.mk (by decide +kernel) ?_ | refine Nd.mk (by omega) ?_ | (refine Nd.mk ?_ ?_; focus ((repeat' (first | exact trivial | exact wkE_refl _ | refine And.intro ?_ ?_)); done)) | refine RdN.intro _ rfl (by rfl) ?_); (conv => whnf))))
          refine ⟨⟨i + 1, some b', cap'⟩, ⟨by omega, fun h => by cases h⟩, by show l.length + 1 - (i + 1) < l.length + 1 - i; omega, ?_, ?_⟩
          · (repeat' (first | exact trivial | refine And.intro (by with_reducible rfl) ?_ | (with_reducible exact wkC_refl _) | (with_reducible exact wkCs_refl _) | refine And.intro ?_ ?_))
            · rw [hrs]; simp [ad]
            · exact av_int (by rw [wrap_i64 (by omega)]; omega)
          · exact ⟨wkE_refl _, wkE_refl _, wkE_refl _, wkE_refl _, .inl ⟨rfl, rfl, by rw [hrs]; simp [ints], rfl, by rw [hrs]; simp, rfl⟩, trivial⟩
        · have hh : hit o l sc (t, u) = none := by rw [hit, if_neg fun h => h3 h.2]
          rw [hh, Option.toList_none, List.append_nil] at hrs
          ((conv => whnf); (repeat ((first | refine VrN.norm (wrap_i64 (by omega)) ?_ | refine VrN.keep ?_ | refine DrawN.calm (by decide +kernel) ?_ | refine Nd.mk (by decide +kernel) ?_ | refine Nd.mk (by omega) ?_ | (refine Nd.mk ?_ ?_; focus ((repeat' (first | exact trivial | exact wkE_refl _ | refine And.intro ?_ ?_)); done)) | refine RdN.intro _ rfl (by rfl) ?_); (conv => whnf))))
          refine ⟨⟨i + 1, b, c⟩, ⟨by omega, by rw [hrs]; exact hb⟩, by show l.length + 1 - (i + 1) < l.length + 1 - i; omega, ?_, ?_⟩
          · (repeat' (first | exact trivial | refine And.intro (by with_reducible rfl) ?_ | (with_reducible exact wkC_refl _) | (with_reducible exact wkCs_refl _) | refine And.intro ?_ ?_))
            · rw [hrs]
            · exact av_int (by rw [wrap_i64 (by omega)]; omega)
          · exact ⟨wkE_refl _, wkE_refl _, wkE_refl _, wkE_refl _, .inl ⟨rfl, rfl, by rw [hrs], rfl, by rw [hrs], rfl⟩, trivial⟩
      · have hh : hit o l sc (t, u) = none := by rw [hit, if_neg fun h => h2 h.1]
        rw [hh, Option.toList_none, List.append_nil] at hrs
        ((conv => whnf); (repeat ((first | refine VrN.norm (wrap_i64 (by omega)) ?_ | refine VrN.keep ?_ | refine DrawN.calm (by decide +kernel) ?_ | refine Nd.mk (by decide +kernel) ?_ | refine Nd.mk (by omega) ?_ | (refine Nd.mk ?_ ?_; focus ((repeat' (first | exact trivial | exact wkE_refl _ | refine And.intro ?_ ?_)); done)) | refine RdN.intro _ rfl (by rfl) ?_); (conv => whnf))))
        refine ⟨⟨i + 1, b, c⟩, ⟨by omega, by rw [hrs]; exact hb⟩, by show l.length + 1 - (i + 1) < l.length + 1 - i; omega, ?_, ?_⟩
        · (repeat' (first | exact trivial | refine And.intro (by with_reducible rfl) ?_ | (with_reducible exact wkC_refl _) | (with_reducible exact wkCs_refl _) | refine And.intro ?_ ?_))
          · rw [hrs]
          · exact av_int (by rw [wrap_i64 (by omega)]; omega)
        · exact ⟨wkE_refl _, wkE_refl _, wkE_refl _, wkE_refl _, .inl ⟨rfl, rfl, by rw [hrs], rfl, by rw [hrs], rfl⟩, trivial⟩
    · have hi : i = l.length + 1 := by omega
      have hrl := raw_len o l (Cal.secs y m d hh mi s) ((0, o) :: l)
      have hrl2 : ((0, o) :: l).length ≤ 41 := by simp; omega
      have hll2 : ((0, o) :: l).take i = (0, o) :: l := List.take_of_length_le (by simp; omega)
      rw [hll2] at hb ⊢
      clear hll2 hi h1
      unfold mom
      generalize raw o l (Cal.secs y m d hh mi s) ((0, o) :: l) = r at hb hrl ⊢
      ((conv => whnf); (repeat ((first | refine VrN.norm (wrap_i64 (by omega)) ?_ | refine VrN.keep ?_ | refine DrawN.calm (by decide +kernel) ?_ | refine Nd.mk (by decide +kernel) ?_ | refine Nd.mk (by omega) ?_ | (refine Nd.mk ?_ ?_; focus ((repeat' (first | exact trivial | exact wkE_refl _ | refine And.intro ?_ ?_)); done)) | refine RdN.intro _ rfl (by rfl) ?_); (conv => whnf))))
      cases b with
      | none =>
        obtain ⟨rfl, rfl⟩ := hb rfl
        refine call1 (Sort_nil _) ?_
        ((conv => whnf); (repeat ((first | refine VrN.norm (wrap_i64 (by omega)) ?_ | refine VrN.keep ?_ | refine DrawN.calm (by decide +kernel) ?_ | refine Nd.mk (by decide +kernel) ?_ | refine Nd.mk (by omega) ?_ | (refine Nd.mk ?_ ?_; focus ((repeat' (first | exact trivial | exact wkE_refl _ | refine And.intro ?_ ?_)); done)) | refine RdN.intro _ rfl (by rfl) ?_); (conv => whnf))))
        refine call1 (Compact_nil _) ?_
        ((conv => whnf); (repeat ((first | refine VrN.norm (wrap_i64 (by omega)) ?_ | refine VrN.keep ?_ | refine DrawN.calm (by decide +kernel) ?_ | refine Nd.mk (by decide +kernel) ?_ | refine Nd.mk (by omega) ?_ | (refine Nd.mk ?_ ?_; focus ((repeat' (first | exact trivial | exact wkE_refl _ | refine And.intro ?_ ?_)); done)) | refine RdN.intro _ rfl (by rfl) ?_); (conv => whnf))))
        have e0 : Lib.compact (([] : List Int).mergeSort fun x y => decide (x ≤ y)) = [] := by simp [Lib.compact, Lib.compactUpTo]
        rw [e0]
        exact fin_p _ ⟨none, 0, rfl, .inr rfl, fun w h => h⟩ fun w hw => SlAt.nil
      | some b =>
        refine Sort_c 4 rfl (by omega) ?_
        ((conv => whnf); (repeat ((first | refine VrN.norm (wrap_i64 (by omega)) ?_ | refine VrN.keep ?_ | refine DrawN.calm (by decide +kernel) ?_ | refine Nd.mk (by decide +kernel) ?_ | refine Nd.mk (by omega) ?_ | (refine Nd.mk ?_ ?_; focus ((repeat' (first | exact trivial | exact wkE_refl _ | refine And.intro ?_ ?_)); done)) | refine RdN.intro _ rfl (by rfl) ?_); (conv => whnf))))
        have hsl : (r.mergeSort fun x y => decide (x ≤ y)).length = r.length := by simp
        rw [← hsl]
        refine Compact_c 4 rfl (by omega) ?_
        ((conv => whnf); (repeat ((first | refine VrN.norm (wrap_i64 (by omega)) ?_ | refine VrN.keep ?_ | refine DrawN.calm (by decide +kernel) ?_ | refine Nd.mk (by decide +kernel) ?_ | refine Nd.mk (by omega) ?_ | (refine Nd.mk ?_ ?_; focus ((repeat' (first | exact trivial | exact wkE_refl _ | refine And.intro ?_ ?_)); done)) | refine RdN.intro _ rfl (by rfl) ?_); (conv => whnf))))
        refine fin_p _ ⟨some ⟨b, 0, none⟩, _, rfl, .inl rfl, fun w h => h⟩ fun w hw => ?_
        have := hw.2.1
        rwa [Nat.mul_one] at this
  · have ha' : a.isSome = true := by rcases ha with ha | ha; exact ha; (subst ha; simp at h)
    refine Nd.mk ha' ?_
    ((conv => whnf); (repeat ((first | refine VrN.norm (wrap_i64 (by omega)) ?_ | refine VrN.keep ?_ | refine DrawN.calm (by decide +kernel) ?_ | refine Nd.mk (by decide +kernel) ?_ | refine Nd.mk (by omega) ?_ | (refine Nd.mk ?_ ?_; focus ((repeat' (first | exact trivial | exact wkE_refl _ | refine And.intro ?_ ?_)); done)) | refine RdN.intro _ rfl (by rfl) ?_); (conv => whnf))))
    refine ApN.intro (enc l) (by rw [enc_len]; rfl) ?_ ?_ ?_
    · intro u hu
      obtain ⟨c, _, hc⟩ := List.mem_flatMap.1 hu
      simp [chg] at hc
      rcases hc with rfl | rfl <;> rfl
    · intro w hw j v hj
      have hlt : j < l.length * 2 := by rw [← enc_len]; exact (List.getElem?_eq_some_iff.1 hj).1
      rw [← hj]; exact hw.1.2.2 j hlt
    have hl0 : l.length ≠ 0 := fun h0 => by rw [h0] at h; cases h
    ((conv => whnf); (repeat ((first | refine VrN.norm (wrap_i64 (by omega)) ?_ | refine VrN.keep ?_ | refine DrawN.calm (by decide +kernel) ?_ | refine Nd.mk (by decide +kernel) ?_ | refine Nd.mk (by omega) ?_ | (refine Nd.mk ?_ ?_; focus ((repeat' (first | exact trivial | exact wkE_refl _ | refine And.intro ?_ ?_)); done)) | refine RdN.intro _ rfl (by rfl) ?_); (conv => whnf))))
    refine Nd.mk ⟨rfl, rfl, by omega, ⟨by show (1 + l.length) * 16 ≤ _; omega, by omega⟩, by decide⟩ ?_
    rw [Nat.add_comm 1 l.length]
    ((conv => whnf); (repeat ((first | refine VrN.norm (wrap_i64 (by omega)) ?_ | refine VrN.keep ?_ | refine DrawN.calm (by decide +kernel) ?_ | refine Nd.mk (by decide +kernel) ?_ | refine Nd.mk (by omega) ?_ | (refine Nd.mk ?_ ?_; focus ((repeat' (first | exact trivial | exact wkE_refl _ | refine And.intro ?_ ?_)); done)) | refine RdN.intro _ rfl (by rfl) ?_); (conv => whnf))))
    refine LoopN.intro (Nat × Option Nat × Nat) (fun ⟨i, b, c⟩ => i ≤ l.length + 1 ∧ (b = none → raw o l (Cal.secs y m d hh mi s) (((0, o) :: l).take i) = [] ∧ c = 0))
      (fun ⟨i, b, c⟩ => mkS 45 0 [(2, .c (.lp 1 0)), (3, .c (.lp 2 0)), (5, .c (.v (.slice (ad b) (raw o l (Cal.secs y m d hh mi s) (((0, o) :: l).take i)).length c))), (15, .c (.sl 4 (l.length + 1))), (16, .c (.v (.int .i64 ((l.length + 1 : Nat) : Int)))), (17, .c (.v (.int .i64 (i : Int))))])
      (fun ⟨i, b, c⟩ => [.fact (SlAt a (l.length * 2) (enc l)), .blk 54 [.v (.int .i64 o), .v (.slice a l.length cap)], .blk 23 (cellsV (dt y m d hh mi s)), .dead, .row 66 2 (l.length + 1) (vs (enc ((0, o) :: l))), .app 3 1 (ints (raw o l (Cal.secs y m d hh mi s) (((0, o) :: l).take i))) (ad b) (raw o l (Cal.secs y m d hh mi s) (((0, o) :: l).take i)).length c]) (fun ⟨i, _⟩ => l.length + 1 - i) [.app 0 0 [] none 0 0] rfl
      (fun _ => rfl) (fun _ => rfl) (fun ⟨_, _, _⟩ _ => ⟨trivial, ⟨trivial, trivial, trivial⟩, okCs_vs _ (dt y m d hh mi s).cells.toList, trivial, okCs_vs _ _, trivial, trivial⟩) ⟨⟨0, none, 0⟩, ⟨by omega, fun _ => ⟨rfl, rfl⟩⟩, ?_, ?_⟩ ?_
    · (repeat' (first | exact trivial | refine And.intro (by with_reducible rfl) ?_ | (with_reducible exact wkC_refl _) | (with_reducible exact wkCs_refl _) | refine And.intro ?_ ?_))
      all_goals rfl
    · exact ⟨wkE_refl _, wkE_refl _, wkE_refl _, trivial, wkE_refl _, wkE_nil, trivial⟩
    rintro ⟨i, b, c⟩ ⟨hi1, hb⟩
    ((conv => whnf); (repeat ((first | refine VrN.norm (wrap_i64 (by omega)) ?_ | refine VrN.keep ?_ | refine DrawN.calm (by decide +kernel) ?_ | refine Nd.mk (by decide +kernel) ?_ | refine Nd.mk (by omega) ?_ | (refine Nd.mk ?_ ?_; focus ((repeat' (first | exact trivial | exact wkE_refl _ | refine And.intro ?_ ?_)); done)) | refine RdN.intro _ rfl (by rfl) ?_); (conv => whnf))))
    refine brd_dec (fun h1 => ?_) (fun h1 => ?_)
    · have hi : i < l.length + 1 := by omega
      have hc : ∃ c, ((0, o) :: l)[i]? = some c := ⟨_, List.getElem?_eq_getElem (by simpa using hi)⟩
      obtain ⟨⟨t, u⟩, hc⟩ := hc
      have hub := zall hz hc
      have hto := take_one hc
      have hrs := raw_snoc o l (Cal.secs y m d hh mi s) (((0, o) :: l).take i) (t, u)
      rw [← hto] at hrs
      have hrl := raw_len o l (Cal.secs y m d hh mi s) (((0, o) :: l).take i)
      have htl : (((0, o) :: l).take i).length ≤ 41 := by simp; omega
      ((conv => whnf); (repeat ((first | refine VrN.norm (wrap_i64 (by omega)) ?_ | refine VrN.keep ?_ | refine DrawN.calm (by decide +kernel) ?_ | refine Nd.mk (by decide +kernel) ?_ | refine Nd.mk (by omega) ?_ | (refine Nd.mk ?_ ?_; focus ((repeat' (first | exact trivial | exact wkE_refl _ | refine And.intro ?_ ?_)); done)) | refine RdN.intro _ rfl (by rfl) ?_); (conv => whnf)))); refine RdN.intro [.v (.int .i64 t), .v (.int .i64 u)] (row_get ((0, o) :: l) hc) rfl ?_
      ((conv => whnf); (repeat ((first | refine VrN.norm (wrap_i64 (by omega)) ?_ | refine VrN.keep ?_ | refine DrawN.calm (by decide +kernel) ?_ | refine Nd.mk (by decide +kernel) ?_ | refine Nd.mk (by omega) ?_ | (refine Nd.mk ?_ ?_; focus ((repeat' (first | exact trivial | exact wkE_refl _ | refine And.intro ?_ ?_)); done)) | refine RdN.intro _ rfl (by rfl) ?_); (conv => whnf)))); refine callQ (seconds_c y m d hh mi s (by omega) (by omega) (by omega) (by omega) (by omega) (by omega) (by omega) _) ?_
      ((conv => whnf); (repeat ((refine VrN.keep ?_); (conv => whnf))))
      have hs : -4000000000000 ≤ Cal.secs y m d hh mi s ∧ Cal.secs y m d hh mi s ≤ 4000000000000 := by
        have := Cal.dn_bd y m d (by omega) (by omega)
        unfold Cal.secs; omega
      rw [wrap_i64 (by omega)]
      generalize Cal.secs y m d hh mi s = sc at *
      ((conv => whnf); (repeat ((first | refine VrN.norm (wrap_i64 (by omega)) ?_ | refine VrN.keep ?_ | refine DrawN.calm (by decide +kernel) ?_ | refine Nd.mk (by decide +kernel) ?_ | refine Nd.mk (by omega) ?_ | (refine Nd.mk ?_ ?_; focus ((repeat' (first | exact trivial | exact wkE_refl _ | refine And.intro ?_ ?_)); done)) | refine RdN.intro _ rfl (by rfl) ?_); (conv => whnf)))); refine callQ (isMoment_c (sc - u) _) ?_
      ((conv => whnf); (repeat ((first | refine VrN.norm (wrap_i64 (by omega)) ?_ | refine VrN.keep ?_ | refine DrawN.calm (by decide +kernel) ?_ | refine Nd.mk (by decide +kernel) ?_ | refine Nd.mk (by omega) ?_ | (refine Nd.mk ?_ ?_; focus ((repeat' (first | exact trivial | exact wkE_refl _ | refine And.intro ?_ ?_)); done)) | refine RdN.intro _ rfl (by rfl) ?_); (conv => whnf))))
      refine brd_dec (fun h2 => ?_) (fun h2 => ?_)
      · ((conv => whnf); (repeat ((first | refine VrN.norm (wrap_i64 (by omega)) ?_ | refine VrN.keep ?_ | refine DrawN.calm (by decide +kernel) ?_ | refine Nd.mk (by decide +kernel) ?_ | refine Nd.mk (by omega) ?_ | (refine Nd.mk ?_ ?_; focus ((repeat' (first | exact trivial | exact wkE_refl _ | refine And.intro ?_ ?_)); done)) | refine RdN.intro _ rfl (by rfl) ?_); (conv => whnf)))); refine callQ (offset_c o (sc - u) l a cap (by omega) ha _ fun w hw => hw.1) ?_
        ((conv => whnf); (repeat ((first | refine VrN.norm (wrap_i64 (by omega)) ?_ | refine VrN.keep ?_ | refine DrawN.calm (by decide +kernel) ?_ | refine Nd.mk (by decide +kernel) ?_ | refine Nd.mk (by omega) ?_ | (refine Nd.mk ?_ ?_; focus ((repeat' (first | exact trivial | exact wkE_refl _ | refine And.intro ?_ ?_)); done)) | refine RdN.intro _ rfl (by rfl) ?_); (conv => whnf))))
        refine brd_eq (fun h3 => ?_) (fun h3 => ?_)
        · have hh : hit o l sc (t, u) = some (sc - u) := by rw [hit, if_pos ⟨h2, h3⟩]
          rw [hh] at hrs
          ((conv => whnf); (repeat ((first | refine VrN.norm (wrap_i64 (by omega)) ?_ | refine VrN.keep ?_ | refine DrawN.calm (by decide +kernel) ?_ | refine Nd.mk (by decide +kernel) ?_ | refine Nd.mk (by omega) ?_ | (refine Nd.mk ?_ ?_; focus ((repeat' (first | exact trivial | exact wkE_refl _ | refine And.intro ?_ ?_)); done)) | refine RdN.intro _ rfl (by rfl) ?_); (conv => whnf))))
          refine Nd.mk ⟨by omega, rfl, rfl⟩ ?_
          (conv => whnf)
          refine AppN.grow 5 (ints (raw o l sc (((0, o) :: l).take i))) _ rfl rfl ⟨by omega, ⟨by show (_ + 1) * 8 ≤ _; omega, by omega⟩, by decide⟩ fun b' cap' h3 h4 => ?_
          ((conv => whnf); (repeat ((first | refine VrN.norm (wrap_i64 (by omega)) ?_ | refine VrN.keep ?_ | refine DrawN.calm (by decide +kernel) ?_ | refine Nd.mk (by decide +kernel) ?_ | refine Nd.mk (by omega) ?_ | (refine Nd.mk ?_ ?_; focus ((repeat' (first | exact trivial | exact wkE_refl _ | refine And.intro ?_ ?_)); done)) | refine RdN.intro _ rfl (by rfl) ?_); (conv => whnf))))
          refine ⟨⟨i + 1, some b', cap'⟩, ⟨by omega, fun h => by cases h⟩, by show l.length + 1 - (i + 1) < l.length + 1 - i; omega, ?_, ?_⟩
          · (repeat' (first | exact trivial | refine And.intro (by with_reducible rfl) ?_ | (with_reducible exact wkC_refl _) | (with_reducible exact wkCs_refl _) | refine And.intro ?_ ?_))
            · rw [hrs]; simp [ad]
            · exact av_int (by rw [wrap_i64 (by omega)]; omega)
          · exact ⟨wkE_refl _, wkE_refl _, wkE_refl _, trivial, wkE_refl _, .inl ⟨rfl, rfl, by rw [hrs]; simp [ints], rfl, by rw [hrs]; simp, rfl⟩, trivial⟩
        · have hh : hit o l sc (t, u) = none := by rw [hit, if_neg fun h => h3 h.2]
          rw [hh, Option.toList_none, List.append_nil] at hrs
          ((conv => whnf); (repeat ((first | refine VrN.norm (wrap_i64 (by omega)) ?_ | refine VrN.keep ?_ | refine DrawN.calm (by decide +kernel) ?_ | refine Nd.mk (by decide +kernel) ?_ | refine Nd.mk (by omega) ?_ | (refine Nd.mk ?_ ?_; focus ((repeat' (first | exact trivial | exact wkE_refl _ | refine And.intro ?_ ?_)); done)) | refine RdN.intro _ rfl (by rfl) ?_); (conv => whnf))))
          refine ⟨⟨i + 1, b, c⟩, ⟨by omega, by rw [hrs]; exact hb⟩, by show l.length + 1 - (i + 1) < l.length + 1 - i; omega, ?_, ?_⟩
          · (repeat' (first | exact trivial | refine And.intro (by with_reducible rfl) ?_ | (with_reducible exact wkC_refl _) | (with_reducible exact wkCs_refl _) | refine And.intro ?_ ?_))
            · rw [hrs]
            · exact av_int (by rw [wrap_i64 (by omega)]; omega)
          · exact ⟨wkE_refl _, wkE_refl _, wkE_refl _, trivial, wkE_refl _, .inl ⟨rfl, rfl, by rw [hrs], rfl, by rw [hrs], rfl⟩, trivial⟩
      · have hh : hit o l sc (t, u) = none := by rw [hit, if_neg fun h => h2 h.1]
        rw [hh, Option.toList_none, List.append_nil] at hrs
        ((conv => whnf); (repeat ((first | refine VrN.norm (wrap_i64 (by omega)) ?_ | refine VrN.keep ?_ | refine DrawN.calm (by decide +kernel) ?_ | refine Nd.mk (by decide +kernel) ?_ | refine Nd.mk (by omega) ?_ | (refine Nd.mk ?_ ?_; focus ((repeat' (first | exact trivial | exact wkE_refl _ | refine And.intro ?_ ?_)); done)) | refine RdN.intro _ rfl (by rfl) ?_); (conv => whnf))))
        refine ⟨⟨i + 1, b, c⟩, ⟨by omega, by rw [hrs]; exact hb⟩, by show l.length + 1 - (i + 1) < l.length + 1 - i; omega, ?_, ?_⟩
        · (repeat' (first | exact trivial | refine And.intro (by with_reducible rfl) ?_ | (with_reducible exact wkC_refl _) | (with_reducible exact wkCs_refl _) | refine And.intro ?_ ?_))
          · rw [hrs]
          · exact av_int (by rw [wrap_i64 (by omega)]; omega)
        · exact ⟨wkE_refl _, wkE_refl _, wkE_refl _, trivial, wkE_refl _, .inl ⟨rfl, rfl, by rw [hrs], rfl, by rw [hrs], rfl⟩, trivial⟩
    · have hi : i = l.length + 1 := by omega
      have hrl := raw_len o l (Cal.secs y m d hh mi s) ((0, o) :: l)
      have hrl2 : ((0, o) :: l).length ≤ 41 := by simp; omega
      have hll2 : ((0, o) :: l).take i = (0, o) :: l := List.take_of_length_le (by simp; omega)
      rw [hll2] at hb ⊢
      clear hll2 hi h1
      unfold mom
      generalize raw o l (Cal.secs y m d hh mi s) ((0, o) :: l) = r at hb hrl ⊢
      ((conv => whnf); (repeat ((first | refine VrN.norm (wrap_i64 (by omega)) ?_ | refine VrN.keep ?_ | refine DrawN.calm (by decide +kernel) ?_ | refine Nd.mk (by decide +kernel) ?_ | refine Nd.mk (by omega) ?_ | (refine Nd.mk ?_ ?_; focus ((repeat' (first | exact trivial | exact wkE_refl _ | refine And.intro ?_ ?_)); done)) | refine RdN.intro _ rfl (by rfl) ?_); (conv => whnf))))
      cases b with
      | none =>
        obtain ⟨rfl, rfl⟩ := hb rfl
        refine call1 (Sort_nil _) ?_
        ((conv => whnf); (repeat ((first | refine VrN.norm (wrap_i64 (by omega)) ?_ | refine VrN.keep ?_ | refine DrawN.calm (by decide +kernel) ?_ | refine Nd.mk (by decide +kernel) ?_ | refine Nd.mk (by omega) ?_ | (refine Nd.mk ?_ ?_; focus ((repeat' (first | exact trivial | exact wkE_refl _ | refine And.intro ?_ ?_)); done)) | refine RdN.intro _ rfl (by rfl) ?_); (conv => whnf))))
        refine call1 (Compact_nil _) ?_
        ((conv => whnf); (repeat ((first | refine VrN.norm (wrap_i64 (by omega)) ?_ | refine VrN.keep ?_ | refine DrawN.calm (by decide +kernel) ?_ | refine Nd.mk (by decide +kernel) ?_ | refine Nd.mk (by omega) ?_ | (refine Nd.mk ?_ ?_; focus ((repeat' (first | exact trivial | exact wkE_refl _ | refine And.intro ?_ ?_)); done)) | refine RdN.intro _ rfl (by rfl) ?_); (conv => whnf))))
        have e0 : Lib.compact (([] : List Int).mergeSort fun x y => decide (x ≤ y)) = [] := by simp [Lib.compact, Lib.compactUpTo]
        rw [e0]
        exact fin_p _ ⟨none, 0, rfl, .inr rfl, fun w h => h⟩ fun w hw => SlAt.nil
      | some b =>
        refine Sort_c 5 rfl (by omega) ?_
        ((conv => whnf); (repeat ((first | refine VrN.norm (wrap_i64 (by omega)) ?_ | refine VrN.keep ?_ | refine DrawN.calm (by decide +kernel) ?_ | refine Nd.mk (by decide +kernel) ?_ | refine Nd.mk (by omega) ?_ | (refine Nd.mk ?_ ?_; focus ((repeat' (first | exact trivial | exact wkE_refl _ | refine And.intro ?_ ?_)); done)) | refine RdN.intro _ rfl (by rfl) ?_); (conv => whnf))))
        have hsl : (r.mergeSort fun x y => decide (x ≤ y)).length = r.length := by simp
        rw [← hsl]
        refine Compact_c 5 rfl (by omega) ?_
        ((conv => whnf); (repeat ((first | refine VrN.norm (wrap_i64 (by omega)) ?_ | refine VrN.keep ?_ | refine DrawN.calm (by decide +kernel) ?_ | refine Nd.mk (by decide +kernel) ?_ | refine Nd.mk (by omega) ?_ | (refine Nd.mk ?_ ?_; focus ((repeat' (first | exact trivial | exact wkE_refl _ | refine And.intro ?_ ?_)); done)) | refine RdN.intro _ rfl (by rfl) ?_); (conv => whnf))))
        refine fin_p _ ⟨some ⟨b, 0, none⟩, _, rfl, .inl rfl, fun w h => h⟩ fun w hw => ?_
        have := hw.2.1
        rwa [Nat.mul_one] at this
end Go.Proofs.Ytnecdpkmmncfaaa
