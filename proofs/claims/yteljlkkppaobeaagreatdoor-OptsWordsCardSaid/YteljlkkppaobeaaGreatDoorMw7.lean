/-
  OptsWordsCardSaid is proved: of every string and all strings OptsWords returns true and leaves its arguments as they were; the listed tables are tied to the program's text.
-/
import Derived.Test.YteljlkkppaobeaaGreatDoorChecked
import Derived.Tactics
import Derived.Tactics2
import Derived.Defers
import Derived.Laws.Pointers
import Derived.Laws.LoneSync
import Derived.RegionTactic
import Derived.RegionCalls
import Derived.ChangeAlike
import Derived.Test.YteljlkkppaobeaaGreatDoorCards
import Derived.Test.YteljlkkppaobeaaGreatDoorTie
import Derived.Test.YteljlkkppaobeaaGreatDoorMw6
/-
  Contract: Words (program).
-/
namespace Go.Proofs.YteljlkkppaobeaaGreatDoor
open Go.AX Go.RowKit Go.Opts
set_option maxRecDepth 20000

/-- What Words answers. -/
def WordsR (q : Option (List (List UInt8))) (x : Value) (G : World → Prop) : Prop :=
  match q with
  | none => x = .tuple #[.slice none 0 0, .int .i64 14]
  | some l => ∃ (ob : Option Nat) (cap : Nat), x = .tuple #[.slice (at0 ob) l.length cap, .int .i64 0] ∧ (ob = none → l = []) ∧ ∀ w, G w → SlAt (at0 ob) (l.length * 1) (strC l) w
structure WSt where
  i : Nat
  w : List UInt8
  wb : Option Nat
  wc : Nat
  b : Bool
  out : List (List UInt8)
  ob : Option Nat
  oc : Nat
set_option maxHeartbeats 2000000 in
theorem Words_c (s : List UInt8) (hs : s.length ≤ 1000000) : SpecF Tryz.prog 6 [.string (bs s)] (fun _ => True) (WordsR (words s [] false [])) := by
  refine specF hm Tryz.func6 (by kernel_rfl) rfl rfl ?_
  have hz := bs_size s
  generalize hq : words s [] false [] = q
  (first | refine wX ?_ | exact wZ)
  refine LoopN.intro WSt (fun ⟨i, w, wb, wc, b, out, ob, oc⟩ => i ≤ s.length ∧ words (s.drop i) w b out = q ∧ w.length ≤ i ∧ out.length ≤ i ∧ (wb = none → w = []) ∧ (ob = none → out = []) ∧ w.length ≤ wc ∧ out.length ≤ oc)
    (fun ⟨i, w, wb, wc, b, out, ob, oc⟩ => mkS Tryz.f6.ntmps 0 [(0, .c (.v (.string (bs s)))), (2, .c (.v (.slice none 0 0))), (3, .c (.v (.int .i64 0))), (4, .c (.v (.slice (at0 ob) out.length oc))), (5, .c (.v (.slice (at0 wb) w.length wc))), (6, .c (.v (.bool b))), (7, .c (.v (.int .i64 (i : Int))))])
    (fun ⟨_, w, wb, wc, _, out, ob, oc⟩ => [.fact fun _ => True, .app 5 1 (u8s w) (at0 wb) w.length wc, .app 9 1 (strC out) (at0 ob) out.length oc]) (fun ⟨i, _, _, _, _, _, _, _⟩ => s.length - i) [.app 0 0 [] none 0 0, .app 0 0 [] none 0 0] rfl (fun _ => rfl) (fun _ => rfl) (fun _ _ => okHB_eq rfl)
    ⟨⟨0, [], none, 0, false, [], none, 0⟩, ⟨Nat.zero_le _, hq, Nat.le_refl _, Nat.le_refl _, fun _ => rfl, fun _ => rfl, Nat.le_refl _, Nat.le_refl _⟩, ?_, ⟨wkE_refl _, wkE_nil, wkE_nil, wkH_nil _⟩⟩ ?_
  · (repeat' (first | exact trivial | refine And.intro (by with_reducible rfl) ?_ | (with_reducible exact wkC_refl _) | (with_reducible exact wkCs_refl _) | refine And.intro ?_ ?_))
    all_goals rfl
  rintro ⟨i, w, wb, wc, b, out, ob, oc⟩ ⟨hi, he, hwi, hoi, hwb, hob, hwc, hoc⟩
  (first | refine wX ?_ | exact wZ)
  rw [hz]
  refine brd_dec (fun h1 => ?_) (fun h1 => ?_)
  · obtain ⟨c, hc⟩ : ∃ c, s[i]? = some c := ⟨_, List.getElem?_eq_getElem (by omega)⟩
    have hcl := c.toNat_lt
    rw [drop_at hc, words_cons] at he
    have hi1 : IntKind.i64.wrap ((i : Int) + 1) = ((i + 1 : Nat) : Int) := by rw [wrap_i64 (by omega)]; omega
    (first | refine wX ?_ | exact wZ)
    rw [Int.toNat_natCast, byteAt_get hc]
    by_cases c32 : c = 32
    · subst c32
      rw [if_pos (by decide)] at he
      (first | refine wX ?_ | exact wZ)
      -- a blank
      cases b with
      | true =>
        (first | refine wX ?_ | exact wZ)
        refine ReadW.bytes w rfl rfl Tryz.underlying40 Tryz.underlying5 Tryz.underlying9 rfl (fun w hw => by have := hw.2.1; rwa [Nat.mul_one] at this) ?_
        (first | refine wX ?_ | exact wZ)
        try refine Nd.mk ⟨Nat.le_refl 1, rfl, rfl⟩ ?_
        (conv => whnf)
        refine AppN.grow 2 (strC out) [.string (bs w)] rfl rfl ⟨Nat.le_refl 1, ⟨by show (out.length + 1) * 16 ≤ _; omega, by show out.length + 1 < _; omega⟩, Nat.one_ne_zero⟩ fun b1 c1 h11 h12 => ?_
        (first | refine wX ?_ | exact wZ)
        refine ⟨⟨i + 1, [], none, 0, false, out ++ [w], some b1, c1⟩, ⟨by omega, he, Nat.zero_le _, by simp; omega, fun _ => rfl, (fun h => by cases h), Nat.le_refl _, by simp; omega⟩, by show s.length - (i + 1) < s.length - i; omega, ?_, ⟨wkE_refl _, wkE_nil, .inl ⟨rfl, rfl, strC_snoc _ _, rfl, by simp, rfl⟩, wkH_nil _⟩⟩
        · (repeat' (first | exact trivial | refine And.intro (by with_reducible rfl) ?_ | (with_reducible exact wkC_refl _) | (with_reducible exact wkCs_refl _) | refine And.intro ?_ ?_))
          all_goals first | rfl | exact av_int (by omega) | exact av_int (by rw [wrap_i64 (by omega)]; omega) | (simp [at0]; done)
      | false =>
        (first | refine wX ?_ | exact wZ)
        refine ⟨⟨i + 1, [], none, 0, false, out, ob, oc⟩, ⟨by omega, he, Nat.zero_le _, by omega, fun _ => rfl, hob, Nat.le_refl _, hoc⟩, by show s.length - (i + 1) < s.length - i; omega, ?_, ⟨wkE_refl _, wkE_nil, wkE_refl _, wkH_nil _⟩⟩
        · (repeat' (first | exact trivial | refine And.intro (by with_reducible rfl) ?_ | (with_reducible exact wkC_refl _) | (with_reducible exact wkCs_refl _) | refine And.intro ?_ ?_))
          all_goals first | rfl | exact av_int (by omega) | exact av_int (by rw [wrap_i64 (by omega)]; omega) | (simp [at0]; done)
    by_cases c9 : c = 9
    · subst c9
      rw [if_pos (by decide)] at he
      (first | refine wX ?_ | exact wZ)
      -- a blank
      cases b with
      | true =>
        (first | refine wX ?_ | exact wZ)
        refine ReadW.bytes w rfl rfl Tryz.underlying40 Tryz.underlying5 Tryz.underlying9 rfl (fun w hw => by have := hw.2.1; rwa [Nat.mul_one] at this) ?_
        (first | refine wX ?_ | exact wZ)
        try refine Nd.mk ⟨Nat.le_refl 1, rfl, rfl⟩ ?_
        (conv => whnf)
        refine AppN.grow 2 (strC out) [.string (bs w)] rfl rfl ⟨Nat.le_refl 1, ⟨by show (out.length + 1) * 16 ≤ _; omega, by show out.length + 1 < _; omega⟩, Nat.one_ne_zero⟩ fun b1 c1 h11 h12 => ?_
        (first | refine wX ?_ | exact wZ)
        refine ⟨⟨i + 1, [], none, 0, false, out ++ [w], some b1, c1⟩, ⟨by omega, he, Nat.zero_le _, by simp; omega, fun _ => rfl, (fun h => by cases h), Nat.le_refl _, by simp; omega⟩, by show s.length - (i + 1) < s.length - i; omega, ?_, ⟨wkE_refl _, wkE_nil, .inl ⟨rfl, rfl, strC_snoc _ _, rfl, by simp, rfl⟩, wkH_nil _⟩⟩
        · (repeat' (first | exact trivial | refine And.intro (by with_reducible rfl) ?_ | (with_reducible exact wkC_refl _) | (with_reducible exact wkCs_refl _) | refine And.intro ?_ ?_))
          all_goals first | rfl | exact av_int (by omega) | exact av_int (by rw [wrap_i64 (by omega)]; omega) | (simp [at0]; done)
      | false =>
        (first | refine wX ?_ | exact wZ)
        refine ⟨⟨i + 1, [], none, 0, false, out, ob, oc⟩, ⟨by omega, he, Nat.zero_le _, by omega, fun _ => rfl, hob, Nat.le_refl _, hoc⟩, by show s.length - (i + 1) < s.length - i; omega, ?_, ⟨wkE_refl _, wkE_nil, wkE_refl _, wkH_nil _⟩⟩
        · (repeat' (first | exact trivial | refine And.intro (by with_reducible rfl) ?_ | (with_reducible exact wkC_refl _) | (with_reducible exact wkCs_refl _) | refine And.intro ?_ ?_))
          all_goals first | rfl | exact av_int (by omega) | exact av_int (by rw [wrap_i64 (by omega)]; omega) | (simp [at0]; done)
    rw [if_neg (by simp [c32, c9])] at he
    have e32 : ((c.toNat : Int) == 32) = false := (u8_eq (n := 32) (by decide)).trans (by simpa using c32)
    have e9 : ((c.toNat : Int) == 9) = false := (u8_eq (n := 9) (by decide)).trans (by simpa using c9)
    by_cases c39 : c = 39
    · subst c39
      rw [if_pos (by decide)] at he
      (first | refine wX ?_ | exact wZ)
      rw [hi1]
      refine ReadW.sl_l (i + 1) rfl Tryz.underlying9 rfl rfl ⟨rfl, by omega⟩ ?_
      (first | refine wX ?_ | exact wZ)
      refine call1 (IndexByte_c (s.drop (i + 1)) 39 _) ?_
      rw [plc_lib]
      cases hp : plc 39 (s.drop (i + 1)) with
      | none =>
        rw [hp] at he
        subst he
        (first | refine wX ?_ | exact wZ)
        exact fin_v rfl
      | some k =>
        rw [hp] at he
        have hk := plc_lt hp
        rw [List.length_drop] at hk
        have hdt : (s.drop (i + 1)).drop (k + 1) = s.drop (i + (k + 2)) := by rw [List.drop_drop]; congr 1; omega
        have hw2 : IntKind.i64.wrap (IntKind.i64.wrap ((i : Int) + 1) + (k : Int)) = ((i + 1 + k : Nat) : Int) := by rw [hi1, wrap_i64 (by omega)]; omega
        have hw3 : IntKind.i64.wrap ((i : Int) + IntKind.i64.wrap ((k : Int) + 1)) = ((i + (k + 1) : Nat) : Int) := by rw [wrap_i64 (x := (k : Int) + 1) (by omega), wrap_i64 (by omega)]; omega
        simp only at he
        rw [hdt] at he
        (first | refine wX ?_ | exact wZ)
        refine ReadW.sl_lh (i + 1) (i + 1 + k) rfl Tryz.underlying9 rfl rfl rfl ⟨hi1, hw2, by omega, by omega⟩ ?_
        rw [List.drop_take, show i + 1 + k - (i + 1) = k by omega]
        have htl : ((s.drop (i + 1)).take k).length = k := by rw [List.length_take, List.length_drop]; omega
        generalize (s.drop (i + 1)).take k = T at *
        have hTz := bs_size T
        (conv => whnf)
        refine EffW.appStr 1 rfl rfl rfl Tryz.underlying40 Tryz.underlying9 rfl rfl rfl rfl (by omega) fun wb2 wc2 g1 g2 g3 => ?_
        (first | refine wX ?_ | exact wZ)
        have hw4 : IntKind.i64.wrap (IntKind.i64.wrap ((i : Int) + IntKind.i64.wrap ((k : Int) + 1)) + 1) = ((i + (k + 2) : Nat) : Int) := by rw [hw3, wrap_i64 (by omega)]; omega
        have hln : (w ++ T).length = w.length + T.length := by simp
        refine ⟨⟨i + (k + 2), w ++ T, wb2, wc2, true, out, ob, oc⟩, ⟨by omega, he, by rw [hln]; omega, by omega, fun h => List.eq_nil_of_length_eq_zero (by have := (g1 h).1; rw [hln]; omega), hob, by rw [hln]; omega, hoc⟩, by show s.length - (i + (k + 2)) < s.length - i; omega, ?_, ⟨wkE_refl _, .inl ⟨rfl, rfl, by rw [bs_list]; simp [u8s], rfl, by rw [hln, hTz], rfl⟩, wkE_refl _, wkH_nil _⟩⟩
        (repeat' (first | exact trivial | refine And.intro (by with_reducible rfl) ?_ | (with_reducible exact wkC_refl _) | (with_reducible exact wkCs_refl _) | refine And.intro ?_ ?_))
        all_goals first | rfl | exact av_int hw4 | (rw [hln, hTz]; done) | (rw [hln, hTz]; rfl)
    rw [if_neg (by simp [c39])] at he
    have e39 : ((c.toNat : Int) == 39) = false := (u8_eq (n := 39) (by decide)).trans (by simpa using c39)
    by_cases c34 : c = 34
    · subst c34
      rw [if_pos (by decide)] at he
      (first | refine wX ?_ | exact wZ)
      rw [hi1]
      refine ReadW.sl_l (i + 1) rfl Tryz.underlying9 rfl rfl ⟨rfl, by omega⟩ ?_
      (first | refine wX ?_ | exact wZ)
      refine SpecF.call (quoted_c (s.drop (i + 1)) (by rw [List.length_drop]; omega)) (fun w _ => trivial) fun v G hR => ?_
      have hql := quo_len ((s.drop (i + 1)).length + 1) (s.drop (i + 1)) []
      cases hp : quo (s.drop (i + 1)) [] with
      | none =>
        rw [hp] at he hR
        subst he
        obtain rfl := hR
        (first | refine wX ?_ | exact wZ)
        exact fin_v rfl
      | some x =>
        obtain ⟨l, rest⟩ := x
        rw [hp] at he hR
        obtain ⟨hx1, ⟨pp, hpp⟩, hx3⟩ := hql (l, rest) (by omega) hp
        simp only [List.length_drop, List.length_nil] at hx1 hx3
        obtain ⟨lb, lc, rfl, hlb, hlc, hG⟩ := hR
        simp only at he hlb hlc hG
        have hrest : rest = s.drop (s.length - rest.length) := by
          have h1 := congrArg List.length hpp
          rw [List.length_drop, List.length_append] at h1
          have h2 : s.drop (s.length - rest.length) = (s.drop (i + 1)).drop pp.length := by rw [List.drop_drop]; congr 1; simp only at h1; omega
          rw [h2, hpp]
          simp
        rw [hrest] at he
        have hnn : ((s.drop (i + 1)).length - rest.length : Nat) = s.length - (i + 1) - rest.length := by rw [List.length_drop]
        have hlt : rest.length < s.length - (i + 1) := hx1
        have hw5 : IntKind.i64.wrap (IntKind.i64.wrap ((i : Int) + (((s.drop (i + 1)).length - rest.length : Nat) : Int)) + 1) = ((s.length - rest.length : Nat) : Int) := by
          rw [hnn, wrap_i64 (x := (i : Int) + _) (by omega), wrap_i64 (by omega)]
          omega
        have hw6 : (i : Int) + (((s.drop (i + 1)).length - rest.length : Nat) : Int) + 1 = ((s.length - rest.length : Nat) : Int) := by rw [hnn]; omega
        cases l with
        | nil =>
          rw [List.append_nil] at he
          (first | refine wX ?_ | exact wZ)
          refine ⟨⟨s.length - rest.length, w, wb, wc, true, out, ob, oc⟩, ⟨by omega, he, by omega, by omega, hwb, hob, hwc, hoc⟩, by show s.length - (s.length - rest.length) < s.length - i; omega, ?_, ⟨wkE_refl _, wkE_refl _, wkE_refl _, wkH_nil _⟩⟩
          (repeat' (first | exact trivial | refine And.intro (by with_reducible rfl) ?_ | (with_reducible exact wkC_refl _) | (with_reducible exact wkCs_refl _) | refine And.intro ?_ ?_))
          all_goals first | rfl | exact av_int hw6 | exact av_int hw5
        | cons d r =>
          have hlb2 : (at0 lb).isSome = true := by
            cases lb with
            | none => cases hlb rfl
            | some b => rfl
          have hx4 : r.length + 1 + rest.length < s.length - (i + 1) := by simpa using hx3
          have hln : (w ++ d :: r).length = w.length + (r.length + 1) := by simp
          (first | refine wX ?_ | exact wZ)
          refine ApN.intro (u8s (d :: r)) (by show _ = (r.length + 1) * 1; simp [u8s]) (fun u hu => by obtain ⟨c, _, rfl⟩ := List.mem_map.1 hu; rfl) (fun w hw j v hv => (hG w hw.2.2.2.1).cell hv) ?_
          (conv => whnf)
          refine AppN.grow 1 (u8s w) (u8s (d :: r)) rfl (plains_vs _) ⟨by show 1 ≤ r.length + 1; omega, ⟨by show (w.length + (r.length + 1)) * 1 ≤ _; omega, by show w.length + (r.length + 1) < _; omega⟩, Nat.one_ne_zero⟩ fun b1 c1 h11 h12 => ?_
          have h11' : w.length + (r.length + 1) ≤ c1 := h11
          (first | refine wX ?_ | exact wZ)
          refine ⟨⟨s.length - rest.length, w ++ d :: r, some b1, c1, true, out, ob, oc⟩, ⟨by omega, he, by rw [hln]; omega, by omega, (fun h => by cases h), hob, by rw [hln]; exact h11', hoc⟩, by show s.length - (s.length - rest.length) < s.length - i; omega, ?_, ⟨wkE_refl _, .inl ⟨rfl, rfl, by simp [u8s], rfl, hln.symm, rfl⟩, wkE_refl _, wkH_nil _⟩⟩
          (repeat' (first | exact trivial | refine And.intro (by with_reducible rfl) ?_ | (with_reducible exact wkC_refl _) | (with_reducible exact wkCs_refl _) | refine And.intro ?_ ?_))
          all_goals first | rfl | exact av_int hw6 | exact av_int hw5 | (rw [hln]; rfl)
    rw [if_neg (by simp [c34])] at he
    have e34 : ((c.toNat : Int) == 34) = false := (u8_eq (n := 34) (by decide)).trans (by simpa using c34)
    by_cases c92 : c = 92
    · subst c92
      rw [if_pos (by decide)] at he
      (first | refine wX ?_ | exact wZ)
      rw [hi1, hz]
      refine brd_eq (fun h2 => ?_) (fun h2 => ?_)
      · rw [List.drop_of_length_le (by omega)] at he
        subst he
        (first | refine wX ?_ | exact wZ)
        exact fin_v rfl
      · obtain ⟨d, hd⟩ : ∃ d, s[i + 1]? = some d := ⟨_, List.getElem?_eq_getElem (by omega)⟩
        have hdl := d.toNat_lt
        rw [drop_at hd] at he
        have he2 : words (s.drop (i + 2)) (w ++ [d]) true out = q := he
        (first | refine wX ?_ | exact wZ)
        rw [show ((i : Int) + 1).toNat = i + 1 by omega, byteAt_get hd]
        -- d: the byte, i + 2: the next place
        (first | refine wX ?_ | exact wZ)
        try refine Nd.mk ⟨Nat.le_refl 1, rfl, rfl⟩ ?_
        (conv => whnf)
        refine AppN.grow 1 (u8s w) [.int .u8 ((d).toNat : Int)] rfl rfl ⟨Nat.le_refl 1, ⟨by show (w.length + 1) * 1 ≤ _; omega, by show w.length + 1 < _; omega⟩, Nat.one_ne_zero⟩ fun b1 c1 h11 h12 => ?_
        (first | refine wX ?_ | exact wZ)
        refine ⟨⟨i + 2, w ++ [d], some b1, c1, true, out, ob, oc⟩, ⟨by omega, he2, by simp; omega, by show out.length ≤ i + 2; omega, (fun h => by cases h), hob, by simp; omega, hoc⟩, by show s.length - (i + 2) < s.length - i; omega, ?_, ⟨wkE_refl _, .inl ⟨rfl, rfl, u8s_snoc _ _, rfl, by simp, rfl⟩, wkE_refl _, wkH_nil _⟩⟩
        · (repeat' (first | exact trivial | refine And.intro (by with_reducible rfl) ?_ | (with_reducible exact wkC_refl _) | (with_reducible exact wkCs_refl _) | refine And.intro ?_ ?_))
          all_goals first | rfl | exact av_int (by omega) | exact av_int (by rw [wrap_i64 (by omega)]; omega) | (simp [at0]; done)
    rw [if_neg (by simp [c92])] at he
    have e92 : ((c.toNat : Int) == 92) = false := (u8_eq (n := 92) (by decide)).trans (by simpa using c92)
    have he2 : words (s.drop (i + 1)) (w ++ [c]) true out = q := he
    (first | refine wX ?_ | exact wZ)
    rw [e32]
    (first | refine wX ?_ | exact wZ)
    rw [e9]
    (first | refine wX ?_ | exact wZ)
    rw [e39]
    (first | refine wX ?_ | exact wZ)
    rw [e34]
    (first | refine wX ?_ | exact wZ)
    rw [e92]
    -- c: the byte, i + 1: the next place
    (first | refine wX ?_ | exact wZ)
    try refine Nd.mk ⟨Nat.le_refl 1, rfl, rfl⟩ ?_
    (conv => whnf)
    refine AppN.grow 1 (u8s w) [.int .u8 ((c).toNat : Int)] rfl rfl ⟨Nat.le_refl 1, ⟨by show (w.length + 1) * 1 ≤ _; omega, by show w.length + 1 < _; omega⟩, Nat.one_ne_zero⟩ fun b1 c1 h11 h12 => ?_
    (first | refine wX ?_ | exact wZ)
    refine ⟨⟨i + 1, w ++ [c], some b1, c1, true, out, ob, oc⟩, ⟨by omega, he2, by simp; omega, by show out.length ≤ i + 1; omega, (fun h => by cases h), hob, by simp; omega, hoc⟩, by show s.length - (i + 1) < s.length - i; omega, ?_, ⟨wkE_refl _, .inl ⟨rfl, rfl, u8s_snoc _ _, rfl, by simp, rfl⟩, wkE_refl _, wkH_nil _⟩⟩
    · (repeat' (first | exact trivial | refine And.intro (by with_reducible rfl) ?_ | (with_reducible exact wkC_refl _) | (with_reducible exact wkCs_refl _) | refine And.intro ?_ ?_))
      all_goals first | rfl | exact av_int (by omega) | exact av_int (by rw [wrap_i64 (by omega)]; omega) | (simp [at0]; done)
  · have hin : i = s.length := by omega
    subst hin
    rw [List.drop_length, words_nil] at he
    subst he
    cases b with
    | true =>
      (first | refine wX ?_ | exact wZ)
      refine ReadW.bytes w rfl rfl Tryz.underlying40 Tryz.underlying5 Tryz.underlying9 rfl (fun w hw => by have := hw.2.1; rwa [Nat.mul_one] at this) ?_
      (first | refine wX ?_ | exact wZ)
      try refine Nd.mk ⟨Nat.le_refl 1, rfl, rfl⟩ ?_
      (conv => whnf)
      refine AppN.grow 2 (strC out) [.string (bs w)] rfl rfl ⟨Nat.le_refl 1, ⟨by show (out.length + 1) * 16 ≤ _; omega, by show out.length + 1 < _; omega⟩, Nat.one_ne_zero⟩ fun b1 c1 h11 h12 => ?_
      (first | refine wX ?_ | exact wZ)
      refine fin_p (fun w' => SlAt (some ⟨b1, 0, none⟩) ((out.length + 1) * 1) (strC out ++ [Value.string (bs w)]) w') ⟨some b1, c1, by simp [at0], (fun h => by cases h), fun w' hw => by simpa [strC, at0] using hw⟩ fun w' hw => ?_
      exact hw.2.2.1
    | false =>
      (first | refine wX ?_ | exact wZ)
      exact fin_p (SlAt (at0 ob) (out.length * 1) (strC out)) ⟨ob, oc, rfl, hob, fun w hw => hw⟩ fun w hw => hw.2.2.1
end Go.Proofs.YteljlkkppaobeaaGreatDoor

/-
  Contract: Words (document).
-/
namespace Go.Proofs.YteljlkkppaobeaaGreatDoor
open Go.AX Go.RowKit Go.Opts
set_option maxRecDepth 20000

structure RSt where
  i : Nat
  q : UInt8
  w : List UInt8
  b : Bool
  out : List (List UInt8)
  ob : Option Nat
  oc : Nat
set_option maxHeartbeats 4000000 in
theorem RWords_c (s : List UInt8) (hs : s.length ≤ 1000000) : SpecF Tryz.prog 7 [.string (bs s)] (fun _ => True) (WordsR (refW s 0 [] false [])) := by
  refine specF hm Tryz.func7 (by kernel_rfl) rfl rfl ?_
  have hz := bs_size s
  generalize hqq : refW s 0 [] false [] = qq
  (first | refine wX ?_ | exact wZ)
  refine LoopN.intro RSt (fun ⟨i, q, w, b, out, ob, oc⟩ => i ≤ s.length ∧ refW (s.drop i) q w b out = qq ∧ w.length ≤ i ∧ out.length ≤ i ∧ (ob = none → out = []) ∧ (q = 0 ∨ q = 34 ∨ q = 39) ∧ out.length ≤ oc)
    (fun ⟨i, q, w, b, out, ob, oc⟩ => mkS Tryz.f7.ntmps 0 [(0, .c (.v (.string (bs s)))), (2, .c (.v (.slice none 0 0))), (3, .c (.v (.int .i64 0))), (4, .c (.v (.slice (at0 ob) out.length oc))), (5, .c (.v (.string (bs w)))), (6, .c (.v (.bool b))), (7, .c (.v (.int .u8 (q.toNat : Int)))), (8, .c (.v (.int .i64 (i : Int))))])
    (fun ⟨_, _, _, _, out, ob, oc⟩ => [.fact fun _ => True, .app 9 1 (strC out) (at0 ob) out.length oc]) (fun ⟨i, _, _, _, _, _, _⟩ => s.length - i) [.app 0 0 [] none 0 0] rfl (fun _ => rfl) (fun _ => rfl) (fun _ _ => okHB_eq rfl)
    ⟨⟨0, 0, [], false, [], none, 0⟩, ⟨Nat.zero_le _, hqq, Nat.le_refl _, Nat.le_refl _, fun _ => rfl, by decide, Nat.le_refl _⟩, ?_, ⟨wkE_refl _, wkE_nil, wkH_nil _⟩⟩ ?_
  · (repeat' (first | exact trivial | refine And.intro (by with_reducible rfl) ?_ | (with_reducible exact wkC_refl _) | (with_reducible exact wkCs_refl _) | refine And.intro ?_ ?_))
    all_goals rfl
  rintro ⟨i, q, w, b, out, ob, oc⟩ ⟨hi, he, hwi, hoi, hob, hq3, hoc⟩
  (first | refine wX ?_ | exact wZ)
  rw [hz]
  refine brd_dec (fun h1 => ?_) (fun h1 => ?_)
  · obtain ⟨c, hc⟩ : ∃ c, s[i]? = some c := ⟨_, List.getElem?_eq_getElem (by omega)⟩
    have hcl := c.toNat_lt
    rw [drop_at hc, refW_cons] at he
    have hi1 : IntKind.i64.wrap ((i : Int) + 1) = ((i + 1 : Nat) : Int) := by rw [wrap_i64 (by omega)]; omega
    have hh : (s.drop (i + 1)).head? = s[i + 1]? := by rw [List.head?_drop]
    (first | refine wX ?_ | exact wZ)
    rw [Int.toNat_natCast, byteAt_get hc]
    rcases hq3 with rfl | rfl | rfl
    · rw [if_neg (by simp), if_neg (by simp), if_neg (by simp), if_neg (by simp)] at he
      by_cases c39 : c = 39
      · subst c39
        rw [if_pos (by decide)] at he
        -- i + 1: the next place, 39: the quote, w: the word, true: in
        (first | refine wX ?_ | exact wZ)
        refine ⟨⟨i + 1, 39, w, true, out, ob, oc⟩, ⟨by omega, he, by first | omega | exact Nat.zero_le _ | (simp; omega), by omega, hob, by decide, hoc⟩, by show s.length - (i + 1) < s.length - i; omega, ?_, ⟨wkE_refl _, wkE_refl _, wkH_nil _⟩⟩
        · (repeat' (first | exact trivial | refine And.intro (by with_reducible rfl) ?_ | (with_reducible exact wkC_refl _) | (with_reducible exact wkCs_refl _) | refine And.intro ?_ ?_))
          all_goals first | rfl | exact av_int (by omega) | exact av_int (by rw [wrap_i64 (by omega)]; omega) | (simp [at0]; done)
      have e39 : ((c.toNat : Int) == 39) = false := (u8_eq (n := 39) (by decide)).trans (by simpa using c39)
      by_cases c34 : c = 34
      · subst c34
        rw [if_pos (by decide)] at he
        -- i + 1: the next place, 34: the quote, w: the word, true: in
        (first | refine wX ?_ | exact wZ)
        refine ⟨⟨i + 1, 34, w, true, out, ob, oc⟩, ⟨by omega, he, by first | omega | exact Nat.zero_le _ | (simp; omega), by omega, hob, by decide, hoc⟩, by show s.length - (i + 1) < s.length - i; omega, ?_, ⟨wkE_refl _, wkE_refl _, wkH_nil _⟩⟩
        · (repeat' (first | exact trivial | refine And.intro (by with_reducible rfl) ?_ | (with_reducible exact wkC_refl _) | (with_reducible exact wkCs_refl _) | refine And.intro ?_ ?_))
          all_goals first | rfl | exact av_int (by omega) | exact av_int (by rw [wrap_i64 (by omega)]; omega) | (simp [at0]; done)
      have e34 : ((c.toNat : Int) == 34) = false := (u8_eq (n := 34) (by decide)).trans (by simpa using c34)
      rw [if_neg (by simp [c39, c34])] at he
      by_cases c92 : c = 92
      · subst c92
        rw [if_pos (by decide)] at he
        (first | refine wX ?_ | exact wZ)
        rw [hi1, hz]
        refine brd_eq (fun h2 => ?_) (fun h2 => ?_)
        · rw [List.drop_of_length_le (by omega)] at he
          subst he
          (first | refine wX ?_ | exact wZ)
          exact fin_v rfl
        · obtain ⟨d, hd⟩ : ∃ d, s[i + 1]? = some d := ⟨_, List.getElem?_eq_getElem (by omega)⟩
          rw [drop_at hd] at he
          replace he : refW (s.drop (i + 2)) 0 (w ++ [d]) true out = qq := he
          -- (i + 1): the place, d: the byte there; the byte is put behind the word
          (first | refine wX ?_ | exact wZ)
          refine ReadW.sl_lh ((i + 1)) ((i + 1) + 1) rfl Tryz.underlying9 rfl rfl rfl ⟨by first | rfl | (rw [wrap_i64 (by omega)]; rfl), by first | (rw [wrap_i64 (by omega)]; rfl) | (rw [wrap_i64 (by omega), wrap_i64 (by omega)]; omega), by omega, by omega⟩ ?_
          rw [show (s.take ((i + 1) + 1)).drop ((i + 1)) = [d] by rw [take_snoc (by assumption), List.drop_left' (by simp; omega)]]
          (first | refine wX ?_ | exact wZ)
          refine Nd.mk (by rw [bs_size, bs_size]; show w.length + 1 < _; omega) ?_
          rw [bs_app]
          -- i + 2: the next place, 0: the quote, w ++ [d]: the word, true: in
          (first | refine wX ?_ | exact wZ)
          refine ⟨⟨i + 2, 0, w ++ [d], true, out, ob, oc⟩, ⟨by omega, he, by first | omega | exact Nat.zero_le _ | (simp; omega), by omega, hob, by decide, hoc⟩, by show s.length - (i + 2) < s.length - i; omega, ?_, ⟨wkE_refl _, wkE_refl _, wkH_nil _⟩⟩
          · (repeat' (first | exact trivial | refine And.intro (by with_reducible rfl) ?_ | (with_reducible exact wkC_refl _) | (with_reducible exact wkCs_refl _) | refine And.intro ?_ ?_))
            all_goals first | rfl | exact av_int (by omega) | exact av_int (by rw [wrap_i64 (by omega)]; omega) | (simp [at0]; done)
      have e92 : ((c.toNat : Int) == 92) = false := (u8_eq (n := 92) (by decide)).trans (by simpa using c92)
      rw [if_neg (by simp [c92])] at he
      by_cases c32 : c = 32
      · subst c32
        rw [if_pos (by decide)] at he
        (first | refine wX ?_ | exact wZ)
        cases b with
        | true =>
          (first | refine wX ?_ | exact wZ)
          try refine Nd.mk ⟨Nat.le_refl 1, rfl, rfl⟩ ?_
          (conv => whnf)
          refine AppN.grow 1 (strC out) [.string (bs w)] rfl rfl ⟨Nat.le_refl 1, ⟨by show (out.length + 1) * 16 ≤ _; omega, by show out.length + 1 < _; omega⟩, Nat.one_ne_zero⟩ fun b1 c1 h11 h12 => ?_
          (first | refine wX ?_ | exact wZ)
          refine ⟨⟨i + 1, 0, [], false, out ++ [w], some b1, c1⟩, ⟨by omega, he, Nat.zero_le _, by simp; omega, (fun h => by cases h), by decide, by simp; omega⟩, by show s.length - (i + 1) < s.length - i; omega, ?_, ⟨wkE_refl _, .inl ⟨rfl, rfl, strC_snoc _ _, rfl, by simp, rfl⟩, wkH_nil _⟩⟩
          · (repeat' (first | exact trivial | refine And.intro (by with_reducible rfl) ?_ | (with_reducible exact wkC_refl _) | (with_reducible exact wkCs_refl _) | refine And.intro ?_ ?_))
            all_goals first | rfl | exact av_int (by omega) | exact av_int (by rw [wrap_i64 (by omega)]; omega) | (simp [at0]; done)
        | false =>
          -- i + 1: the next place, 0: the quote, []: the word, false: in
          (first | refine wX ?_ | exact wZ)
          refine ⟨⟨i + 1, 0, [], false, out, ob, oc⟩, ⟨by omega, he, by first | omega | exact Nat.zero_le _ | (simp; omega), by omega, hob, by decide, hoc⟩, by show s.length - (i + 1) < s.length - i; omega, ?_, ⟨wkE_refl _, wkE_refl _, wkH_nil _⟩⟩
          · (repeat' (first | exact trivial | refine And.intro (by with_reducible rfl) ?_ | (with_reducible exact wkC_refl _) | (with_reducible exact wkCs_refl _) | refine And.intro ?_ ?_))
            all_goals first | rfl | exact av_int (by omega) | exact av_int (by rw [wrap_i64 (by omega)]; omega) | (simp [at0]; done)
      have e32 : ((c.toNat : Int) == 32) = false := (u8_eq (n := 32) (by decide)).trans (by simpa using c32)
      by_cases c9 : c = 9
      · subst c9
        rw [if_pos (by decide)] at he
        (first | refine wX ?_ | exact wZ)
        cases b with
        | true =>
          (first | refine wX ?_ | exact wZ)
          try refine Nd.mk ⟨Nat.le_refl 1, rfl, rfl⟩ ?_
          (conv => whnf)
          refine AppN.grow 1 (strC out) [.string (bs w)] rfl rfl ⟨Nat.le_refl 1, ⟨by show (out.length + 1) * 16 ≤ _; omega, by show out.length + 1 < _; omega⟩, Nat.one_ne_zero⟩ fun b1 c1 h11 h12 => ?_
          (first | refine wX ?_ | exact wZ)
          refine ⟨⟨i + 1, 0, [], false, out ++ [w], some b1, c1⟩, ⟨by omega, he, Nat.zero_le _, by simp; omega, (fun h => by cases h), by decide, by simp; omega⟩, by show s.length - (i + 1) < s.length - i; omega, ?_, ⟨wkE_refl _, .inl ⟨rfl, rfl, strC_snoc _ _, rfl, by simp, rfl⟩, wkH_nil _⟩⟩
          · (repeat' (first | exact trivial | refine And.intro (by with_reducible rfl) ?_ | (with_reducible exact wkC_refl _) | (with_reducible exact wkCs_refl _) | refine And.intro ?_ ?_))
            all_goals first | rfl | exact av_int (by omega) | exact av_int (by rw [wrap_i64 (by omega)]; omega) | (simp [at0]; done)
        | false =>
          -- i + 1: the next place, 0: the quote, []: the word, false: in
          (first | refine wX ?_ | exact wZ)
          refine ⟨⟨i + 1, 0, [], false, out, ob, oc⟩, ⟨by omega, he, by first | omega | exact Nat.zero_le _ | (simp; omega), by omega, hob, by decide, hoc⟩, by show s.length - (i + 1) < s.length - i; omega, ?_, ⟨wkE_refl _, wkE_refl _, wkH_nil _⟩⟩
          · (repeat' (first | exact trivial | refine And.intro (by with_reducible rfl) ?_ | (with_reducible exact wkC_refl _) | (with_reducible exact wkCs_refl _) | refine And.intro ?_ ?_))
            all_goals first | rfl | exact av_int (by omega) | exact av_int (by rw [wrap_i64 (by omega)]; omega) | (simp [at0]; done)
      have e9 : ((c.toNat : Int) == 9) = false := (u8_eq (n := 9) (by decide)).trans (by simpa using c9)
      rw [if_neg (by simp [c32, c9])] at he
      (first | refine wX ?_ | exact wZ)
      rw [e39]
      (first | refine wX ?_ | exact wZ)
      rw [e34]
      (first | refine wX ?_ | exact wZ)
      rw [e92]
      (first | refine wX ?_ | exact wZ)
      rw [e32]
      (first | refine wX ?_ | exact wZ)
      rw [e9]
      -- i: the place, c: the byte there; the byte is put behind the word
      (first | refine wX ?_ | exact wZ)
      refine ReadW.sl_lh (i) (i + 1) rfl Tryz.underlying9 rfl rfl rfl ⟨by first | rfl | (rw [wrap_i64 (by omega)]; rfl), by first | (rw [wrap_i64 (by omega)]; rfl) | (rw [wrap_i64 (by omega), wrap_i64 (by omega)]; omega), by omega, by omega⟩ ?_
      rw [show (s.take (i + 1)).drop (i) = [c] by rw [take_snoc (by assumption), List.drop_left' (by simp; omega)]]
      (first | refine wX ?_ | exact wZ)
      refine Nd.mk (by rw [bs_size, bs_size]; show w.length + 1 < _; omega) ?_
      rw [bs_app]
      -- i + 1: the next place, 0: the quote, w ++ [c]: the word, true: in
      (first | refine wX ?_ | exact wZ)
      refine ⟨⟨i + 1, 0, w ++ [c], true, out, ob, oc⟩, ⟨by omega, he, by first | omega | exact Nat.zero_le _ | (simp; omega), by omega, hob, by decide, hoc⟩, by show s.length - (i + 1) < s.length - i; omega, ?_, ⟨wkE_refl _, wkE_refl _, wkH_nil _⟩⟩
      · (repeat' (first | exact trivial | refine And.intro (by with_reducible rfl) ?_ | (with_reducible exact wkC_refl _) | (with_reducible exact wkCs_refl _) | refine And.intro ?_ ?_))
        all_goals first | rfl | exact av_int (by omega) | exact av_int (by rw [wrap_i64 (by omega)]; omega) | (simp [at0]; done)
    · rw [if_neg (by simp)] at he
      by_cases c34 : c = 34
      · subst c34
        rw [if_neg (by simp), if_pos (by decide)] at he
        -- i + 1: the next place, 0: the quote, w: the word, b: in
        (first | refine wX ?_ | exact wZ)
        refine ⟨⟨i + 1, 0, w, b, out, ob, oc⟩, ⟨by omega, he, by first | omega | exact Nat.zero_le _ | (simp; omega), by omega, hob, by decide, hoc⟩, by show s.length - (i + 1) < s.length - i; omega, ?_, ⟨wkE_refl _, wkE_refl _, wkH_nil _⟩⟩
        · (repeat' (first | exact trivial | refine And.intro (by with_reducible rfl) ?_ | (with_reducible exact wkC_refl _) | (with_reducible exact wkCs_refl _) | refine And.intro ?_ ?_))
          all_goals first | rfl | exact av_int (by omega) | exact av_int (by rw [wrap_i64 (by omega)]; omega) | (simp [at0]; done)
      have e34 : ((c.toNat : Int) == 34) = false := (u8_eq (n := 34) (by decide)).trans (by simpa using c34)
      by_cases c92 : c = 92
      · subst c92
        (first | refine wX ?_ | exact wZ)
        rw [hz]
        refine brd_dec (fun h2 => ?_) (fun h2 => ?_)
        · obtain ⟨d, hd⟩ : ∃ d, s[i + 1]? = some d := ⟨_, List.getElem?_eq_getElem (by omega)⟩
          have hdl := d.toNat_lt
          have hdd := drop_at hd
          rw [hh, hd, show (s.drop (i + 1)).headD 0 = d by rw [hdd]; rfl, show (s.drop (i + 1)).drop 1 = s.drop (i + 2) by rw [List.drop_drop]] at he
          by_cases d34 : d = 34
          · subst d34
            rw [if_pos (by decide)] at he
            (first | refine wX ?_ | exact wZ)
            try rw [hi1]
            rw [Int.toNat_natCast, byteAt_get hd]
            -- (i + 1): the place, 34: the byte there; the byte is put behind the word
            (first | refine wX ?_ | exact wZ)
            refine ReadW.sl_lh ((i + 1)) ((i + 1) + 1) rfl Tryz.underlying9 rfl rfl rfl ⟨by first | rfl | (rw [wrap_i64 (by omega)]; rfl), by first | (rw [wrap_i64 (by omega)]; rfl) | (rw [wrap_i64 (by omega), wrap_i64 (by omega)]; omega), by omega, by omega⟩ ?_
            rw [show (s.take ((i + 1) + 1)).drop ((i + 1)) = [34] by rw [take_snoc (by assumption), List.drop_left' (by simp; omega)]]
            (first | refine wX ?_ | exact wZ)
            refine Nd.mk (by rw [bs_size, bs_size]; show w.length + 1 < _; omega) ?_
            rw [bs_app]
            -- i + 2: the next place, 34: the quote, w ++ [34]: the word, b: in
            (first | refine wX ?_ | exact wZ)
            refine ⟨⟨i + 2, 34, w ++ [34], b, out, ob, oc⟩, ⟨by omega, he, by first | omega | exact Nat.zero_le _ | (simp; omega), by omega, hob, by decide, hoc⟩, by show s.length - (i + 2) < s.length - i; omega, ?_, ⟨wkE_refl _, wkE_refl _, wkH_nil _⟩⟩
            · (repeat' (first | exact trivial | refine And.intro (by with_reducible rfl) ?_ | (with_reducible exact wkC_refl _) | (with_reducible exact wkCs_refl _) | refine And.intro ?_ ?_))
              all_goals first | rfl | exact av_int (by omega) | exact av_int (by rw [wrap_i64 (by omega)]; omega) | (simp [at0]; done)
          have f34 : ((d.toNat : Int) == 34) = false := (u8_eq (n := 34) (by decide)).trans (by simpa using d34)
          by_cases d92 : d = 92
          · subst d92
            rw [if_pos (by decide)] at he
            (first | refine wX ?_ | exact wZ)
            try rw [hi1]
            rw [Int.toNat_natCast, byteAt_get hd]
            (first | refine wX ?_ | exact wZ)
            try rw [hi1]
            rw [Int.toNat_natCast, byteAt_get hd]
            -- (i + 1): the place, 92: the byte there; the byte is put behind the word
            (first | refine wX ?_ | exact wZ)
            refine ReadW.sl_lh ((i + 1)) ((i + 1) + 1) rfl Tryz.underlying9 rfl rfl rfl ⟨by first | rfl | (rw [wrap_i64 (by omega)]; rfl), by first | (rw [wrap_i64 (by omega)]; rfl) | (rw [wrap_i64 (by omega), wrap_i64 (by omega)]; omega), by omega, by omega⟩ ?_
            rw [show (s.take ((i + 1) + 1)).drop ((i + 1)) = [92] by rw [take_snoc (by assumption), List.drop_left' (by simp; omega)]]
            (first | refine wX ?_ | exact wZ)
            refine Nd.mk (by rw [bs_size, bs_size]; show w.length + 1 < _; omega) ?_
            rw [bs_app]
            -- i + 2: the next place, 34: the quote, w ++ [92]: the word, b: in
            (first | refine wX ?_ | exact wZ)
            refine ⟨⟨i + 2, 34, w ++ [92], b, out, ob, oc⟩, ⟨by omega, he, by first | omega | exact Nat.zero_le _ | (simp; omega), by omega, hob, by decide, hoc⟩, by show s.length - (i + 2) < s.length - i; omega, ?_, ⟨wkE_refl _, wkE_refl _, wkH_nil _⟩⟩
            · (repeat' (first | exact trivial | refine And.intro (by with_reducible rfl) ?_ | (with_reducible exact wkC_refl _) | (with_reducible exact wkCs_refl _) | refine And.intro ?_ ?_))
              all_goals first | rfl | exact av_int (by omega) | exact av_int (by rw [wrap_i64 (by omega)]; omega) | (simp [at0]; done)
          have f92 : ((d.toNat : Int) == 92) = false := (u8_eq (n := 92) (by decide)).trans (by simpa using d92)
          rw [if_neg (by simp [d34, d92]), if_neg (by simp), if_pos (by simp)] at he
          (first | refine wX ?_ | exact wZ)
          try rw [hi1]
          rw [Int.toNat_natCast, byteAt_get hd]
          (first | refine wX ?_ | exact wZ)
          rw [f34]
          (first | refine wX ?_ | exact wZ)
          try rw [hi1]
          rw [Int.toNat_natCast, byteAt_get hd]
          (first | refine wX ?_ | exact wZ)
          rw [f92]
          -- i: the place, 92: the byte there; the byte is put behind the word
          (first | refine wX ?_ | exact wZ)
          refine ReadW.sl_lh (i) (i + 1) rfl Tryz.underlying9 rfl rfl rfl ⟨by first | rfl | (rw [wrap_i64 (by omega)]; rfl), by first | (rw [wrap_i64 (by omega)]; rfl) | (rw [wrap_i64 (by omega), wrap_i64 (by omega)]; omega), by omega, by omega⟩ ?_
          rw [show (s.take (i + 1)).drop (i) = [92] by rw [take_snoc (by assumption), List.drop_left' (by simp; omega)]]
          (first | refine wX ?_ | exact wZ)
          refine Nd.mk (by rw [bs_size, bs_size]; show w.length + 1 < _; omega) ?_
          rw [bs_app]
          -- i + 1: the next place, 34: the quote, w ++ [92]: the word, b: in
          (first | refine wX ?_ | exact wZ)
          refine ⟨⟨i + 1, 34, w ++ [92], b, out, ob, oc⟩, ⟨by omega, he, by first | omega | exact Nat.zero_le _ | (simp; omega), by omega, hob, by decide, hoc⟩, by show s.length - (i + 1) < s.length - i; omega, ?_, ⟨wkE_refl _, wkE_refl _, wkH_nil _⟩⟩
          · (repeat' (first | exact trivial | refine And.intro (by with_reducible rfl) ?_ | (with_reducible exact wkC_refl _) | (with_reducible exact wkCs_refl _) | refine And.intro ?_ ?_))
            all_goals first | rfl | exact av_int (by omega) | exact av_int (by rw [wrap_i64 (by omega)]; omega) | (simp [at0]; done)
        · rw [if_neg (by rw [hh, List.getElem?_eq_none (by omega)]; simp), if_neg (by simp), if_pos (by simp)] at he
          (first | refine wX ?_ | exact wZ)
          -- i: the place, 92: the byte there; the byte is put behind the word
          (first | refine wX ?_ | exact wZ)
          refine ReadW.sl_lh (i) (i + 1) rfl Tryz.underlying9 rfl rfl rfl ⟨by first | rfl | (rw [wrap_i64 (by omega)]; rfl), by first | (rw [wrap_i64 (by omega)]; rfl) | (rw [wrap_i64 (by omega), wrap_i64 (by omega)]; omega), by omega, by omega⟩ ?_
          rw [show (s.take (i + 1)).drop (i) = [92] by rw [take_snoc (by assumption), List.drop_left' (by simp; omega)]]
          (first | refine wX ?_ | exact wZ)
          refine Nd.mk (by rw [bs_size, bs_size]; show w.length + 1 < _; omega) ?_
          rw [bs_app]
          -- i + 1: the next place, 34: the quote, w ++ [92]: the word, b: in
          (first | refine wX ?_ | exact wZ)
          refine ⟨⟨i + 1, 34, w ++ [92], b, out, ob, oc⟩, ⟨by omega, he, by first | omega | exact Nat.zero_le _ | (simp; omega), by omega, hob, by decide, hoc⟩, by show s.length - (i + 1) < s.length - i; omega, ?_, ⟨wkE_refl _, wkE_refl _, wkH_nil _⟩⟩
          · (repeat' (first | exact trivial | refine And.intro (by with_reducible rfl) ?_ | (with_reducible exact wkC_refl _) | (with_reducible exact wkCs_refl _) | refine And.intro ?_ ?_))
            all_goals first | rfl | exact av_int (by omega) | exact av_int (by rw [wrap_i64 (by omega)]; omega) | (simp [at0]; done)
      · rw [if_neg (by simp [c92]), if_neg (by simp [c34]), if_pos (by simp)] at he
        have e92 : ((c.toNat : Int) == 92) = false := (u8_eq (n := 92) (by decide)).trans (by simpa using c92)
        have e34' : ((c.toNat : Int) == (((34 : UInt8).toNat : Nat) : Int)) = false := e34
        (first | refine wX ?_ | exact wZ)
        rw [e92]
        (first | refine wX ?_ | exact wZ)
        rw [e34']
        -- i: the place, c: the byte there; the byte is put behind the word
        (first | refine wX ?_ | exact wZ)
        refine ReadW.sl_lh (i) (i + 1) rfl Tryz.underlying9 rfl rfl rfl ⟨by first | rfl | (rw [wrap_i64 (by omega)]; rfl), by first | (rw [wrap_i64 (by omega)]; rfl) | (rw [wrap_i64 (by omega), wrap_i64 (by omega)]; omega), by omega, by omega⟩ ?_
        rw [show (s.take (i + 1)).drop (i) = [c] by rw [take_snoc (by assumption), List.drop_left' (by simp; omega)]]
        (first | refine wX ?_ | exact wZ)
        refine Nd.mk (by rw [bs_size, bs_size]; show w.length + 1 < _; omega) ?_
        rw [bs_app]
        -- i + 1: the next place, 34: the quote, w ++ [c]: the word, b: in
        (first | refine wX ?_ | exact wZ)
        refine ⟨⟨i + 1, 34, w ++ [c], b, out, ob, oc⟩, ⟨by omega, he, by first | omega | exact Nat.zero_le _ | (simp; omega), by omega, hob, by decide, hoc⟩, by show s.length - (i + 1) < s.length - i; omega, ?_, ⟨wkE_refl _, wkE_refl _, wkH_nil _⟩⟩
        · (repeat' (first | exact trivial | refine And.intro (by with_reducible rfl) ?_ | (with_reducible exact wkC_refl _) | (with_reducible exact wkCs_refl _) | refine And.intro ?_ ?_))
          all_goals first | rfl | exact av_int (by omega) | exact av_int (by rw [wrap_i64 (by omega)]; omega) | (simp [at0]; done)
    · by_cases c39 : c = 39
      · subst c39
        rw [if_neg (by decide), if_neg (by simp), if_pos (by decide)] at he
        -- i + 1: the next place, 0: the quote, w: the word, b: in
        (first | refine wX ?_ | exact wZ)
        refine ⟨⟨i + 1, 0, w, b, out, ob, oc⟩, ⟨by omega, he, by first | omega | exact Nat.zero_le _ | (simp; omega), by omega, hob, by decide, hoc⟩, by show s.length - (i + 1) < s.length - i; omega, ?_, ⟨wkE_refl _, wkE_refl _, wkH_nil _⟩⟩
        · (repeat' (first | exact trivial | refine And.intro (by with_reducible rfl) ?_ | (with_reducible exact wkC_refl _) | (with_reducible exact wkCs_refl _) | refine And.intro ?_ ?_))
          all_goals first | rfl | exact av_int (by omega) | exact av_int (by rw [wrap_i64 (by omega)]; omega) | (simp [at0]; done)
      · rw [if_pos (by simp [c39])] at he
        have e39 : ((c.toNat : Int) == 39) = false := (u8_eq (n := 39) (by decide)).trans (by simpa using c39)
        have e39' : ((c.toNat : Int) != (((39 : UInt8).toNat : Nat) : Int)) = true := by rw [bne, show ((c.toNat : Int) == (((39 : UInt8).toNat : Nat) : Int)) = false from e39]; rfl
        (first | refine wX ?_ | exact wZ)
        rw [e39']
        -- i: the place, c: the byte there; the byte is put behind the word
        (first | refine wX ?_ | exact wZ)
        refine ReadW.sl_lh (i) (i + 1) rfl Tryz.underlying9 rfl rfl rfl ⟨by first | rfl | (rw [wrap_i64 (by omega)]; rfl), by first | (rw [wrap_i64 (by omega)]; rfl) | (rw [wrap_i64 (by omega), wrap_i64 (by omega)]; omega), by omega, by omega⟩ ?_
        rw [show (s.take (i + 1)).drop (i) = [c] by rw [take_snoc (by assumption), List.drop_left' (by simp; omega)]]
        (first | refine wX ?_ | exact wZ)
        refine Nd.mk (by rw [bs_size, bs_size]; show w.length + 1 < _; omega) ?_
        rw [bs_app]
        -- i + 1: the next place, 39: the quote, w ++ [c]: the word, b: in
        (first | refine wX ?_ | exact wZ)
        refine ⟨⟨i + 1, 39, w ++ [c], b, out, ob, oc⟩, ⟨by omega, he, by first | omega | exact Nat.zero_le _ | (simp; omega), by omega, hob, by decide, hoc⟩, by show s.length - (i + 1) < s.length - i; omega, ?_, ⟨wkE_refl _, wkE_refl _, wkH_nil _⟩⟩
        · (repeat' (first | exact trivial | refine And.intro (by with_reducible rfl) ?_ | (with_reducible exact wkC_refl _) | (with_reducible exact wkCs_refl _) | refine And.intro ?_ ?_))
          all_goals first | rfl | exact av_int (by omega) | exact av_int (by rw [wrap_i64 (by omega)]; omega) | (simp [at0]; done)
  · have hin : i = s.length := by omega
    subst hin
    rw [List.drop_length, refW_nil] at he
    subst he
    rcases hq3 with rfl | rfl | rfl
    · cases b with
      | true =>
        (first | refine wX ?_ | exact wZ)
        try refine Nd.mk ⟨Nat.le_refl 1, rfl, rfl⟩ ?_
        (conv => whnf)
        refine AppN.grow 1 (strC out) [.string (bs w)] rfl rfl ⟨Nat.le_refl 1, ⟨by show (out.length + 1) * 16 ≤ _; omega, by show out.length + 1 < _; omega⟩, Nat.one_ne_zero⟩ fun b1 c1 h11 h12 => ?_
        (first | refine wX ?_ | exact wZ)
        refine fin_p (fun w' => SlAt (some ⟨b1, 0, none⟩) ((out.length + 1) * 1) (strC out ++ [Value.string (bs w)]) w') ⟨some b1, c1, by simp [at0], (fun h => by cases h), fun w' hw => by simpa [strC, at0] using hw⟩ fun w' hw => ?_
        exact hw.2.1
      | false =>
        (first | refine wX ?_ | exact wZ)
        exact fin_p (SlAt (at0 ob) (out.length * 1) (strC out)) ⟨ob, oc, rfl, hob, fun w hw => hw⟩ fun w hw => hw.2.1
    · (first | refine wX ?_ | exact wZ)
      exact fin_v rfl
    · (first | refine wX ?_ | exact wZ)
      exact fin_v rfl
end Go.Proofs.YteljlkkppaobeaaGreatDoor

/-
  Contracts: long words; OptsWords (law).
-/
namespace Go.Proofs.YteljlkkppaobeaaGreatDoor
open Go.AX Go.RowKit Go.Opts
set_option maxRecDepth 20000

/-- How long words are (law): to be cut off at 4000. -/
def sumL (l : List (List UInt8)) : Nat := l.length + (l.map List.length).sum
theorem sumL_take {l : List (List UInt8)} {i : Nat} {w : List UInt8} (h : l[i]? = some w) : ((l.take (i + 1)).map List.length).sum = ((l.take i).map List.length).sum + w.length := by
  rw [List.take_add_one, h, List.map_append, List.sum_append]
  simp
theorem sum_take_le : ∀ (l : List Nat) (i : Nat), (l.take i).sum ≤ l.sum
  | [], i => by simp
  | x :: l, 0 => by simp
  | x :: l, i + 1 => by
    have := sum_take_le l i
    simp only [List.take_succ_cons, List.sum_cons]
    omega
theorem mem_sum : ∀ {l : List Nat} {x : Nat}, x ∈ l → x ≤ l.sum
  | y :: l, x, h => by
    rw [List.sum_cons]
    rcases List.mem_cons.1 h with rfl | h
    · omega
    · have := mem_sum h
      omega
/-- What long answers. -/
def longB (l : List (List UInt8)) : Bool := decide (4000 ≤ sumL l)
set_option maxHeartbeats 1000000 in
theorem longw_c (a : Option Addr) (c : Nat) (l : List (List UInt8)) (ha : a = none → l = []) (hl : l.length ≤ 200000000000000) (hw1 : ∀ w ∈ l, w.length ≤ 200000000000000) : ∀ H, (∀ w, Facts H w → SlAt a (l.length * 1) (strC l) w) → SpecH Tryz.prog 4 (pvs [.slice a l.length c]) H (Ret (.bool (longB l)) H) := by
  refine factC hm Tryz.func4 (by kernel_rfl) rfl rfl ?_
  (first | refine wX ?_ | exact wZ)
  refine loopS (Nat × Nat) (fun ⟨i, n⟩ => i ≤ l.length ∧ n = l.length + ((l.take i).map List.length).sum ∧ n ≤ 400000000000000) (fun ⟨i, n⟩ => mkS Tryz.f4.ntmps 0 [(0, .c (.v (.slice a l.length c))), (2, .c (.v (.bool false))), (3, .c (.v (.int .i64 (n : Int)))), (4, .c (.v (.int .i64 (i : Int))))]) (fun ⟨i, _⟩ => l.length - i) rfl (fun _ => rfl) (0, l.length) ⟨Nat.zero_le _, by simp, by omega⟩ ?_ ?_
  · (repeat' (first | exact trivial | refine And.intro (by with_reducible rfl) ?_ | (with_reducible exact wkC_refl _) | (with_reducible exact wkCs_refl _) | refine And.intro ?_ ?_))
    all_goals rfl
  rintro ⟨i, n⟩ ⟨hi, hn, hnb⟩
  (first | refine wX ?_ | exact wZ)
  have hend : ∀ b : Bool, (n < 4000 → i = l.length) → b = decide ((4000 : Int) ≤ n) → b = longB l := fun b h1 h2 => by
    have h3 := sum_take_le (l.map List.length) i
    rw [← List.map_take] at h3
    rw [h2]
    unfold longB sumL
    by_cases h4 : n < 4000
    · rw [h1 h4, List.take_length] at hn
      exact decide_eq_decide.2 (by omega)
    · exact decide_eq_decide.2 (by omega)
  refine brd_dec (fun h1 => ?_) (fun h1 => ?_)
  · (first | refine wX ?_ | exact wZ)
    refine brd_dec (fun h2 => ?_) (fun h2 => ?_)
    · obtain ⟨w0, hw0⟩ : ∃ w, l[i]? = some w := ⟨_, List.getElem?_eq_getElem (by omega)⟩
      have hwl := hw1 w0 (List.mem_of_getElem? hw0)
      have hsa : a.isSome = true := by
        cases a with
        | none => rw [ha rfl] at hw0; cases hw0
        | some b => rfl
      have hst := sumL_take hw0
      have hz := bs_size w0
      (first | refine wX ?_ | exact wZ)
      refine Nd.mk ⟨hsa, by omega, by omega⟩ ?_
      (first | refine wX ?_ | exact wZ)
      refine LdN.one (.string (bs w0)) rfl (fun w hw => hw.1) (by rw [Int.toNat_natCast]; show (strC l)[i * 1]? = _; rw [Nat.mul_one]; exact strC_get hw0) ?_
      (first | refine wX ?_ | exact wZ)
      refine ⟨(i + 1, n + w0.length), ⟨by omega, by omega, by omega⟩, by show l.length - (i + 1) < l.length - i; omega, ?_, by (repeat' (first | exact trivial | exact wkE_refl _ | refine And.intro ?_ ?_))⟩
      (repeat' (first | exact trivial | refine And.intro (by with_reducible rfl) ?_ | (with_reducible exact wkC_refl _) | (with_reducible exact wkCs_refl _) | refine And.intro ?_ ?_))
      all_goals first | rfl | exact av_int (by rw [wrap_i64 (by omega)]; omega) | exact av_int (by rw [hz, wrap_i64 (by omega)]; omega) | exact av_int (by rw [hz]; omega)
    · (first | refine wX ?_ | exact wZ)
      exact out_bool (hend _ (fun h => by omega) rfl)
  · (first | refine wX ?_ | exact wZ)
    exact out_bool (hend _ (fun h => by omega) rfl)
end Go.Proofs.YteljlkkppaobeaaGreatDoor

/-
  Contract: strings.NewReplacer: a struct at a known address that holds the texts.
-/
namespace Go.Proofs.YteljlkkppaobeaaGreatDoor
open Go.AX Go.RowKit
set_option maxRecDepth 20000

/-- The cells of a Replacer: the Once's word, its lock's state and sema, what replaces, the texts. -/
def replC (once st : Int) (r : Value) (a : Option Addr) (n cap : Nat) : List Value := [.int .u32 once, .int .i32 st, .int .u32 0, r, .slice a n cap]
theorem NewReplacer_c (b0 : Nat) (xs : List Value) (cap : Nat) (hl : xs.length ≤ 1000) (he : xs.length % 2 = 0) (h0 : xs ≠ []) (h1 : ∀ u ∈ xs, oneV u = true) : SpecH Tryz.prog 13 (pvs [.slice (some ⟨b0, 0, none⟩) xs.length cap]) [.fz 9 1 xs.length xs b0 cap]
    (RetG (fun _ : Nat × Nat × Nat => True) (fun i => .pointer (some ⟨i.1, 0, none⟩)) fun i => [.fz 9 1 xs.length xs b0 cap, .app 9 1 xs (some ⟨i.2.1, 0, none⟩) xs.length i.2.2, .app 69 5 (replC 0 0 .nilIface (some ⟨i.2.1, 0, none⟩) xs.length i.2.2) (some ⟨i.1, 0, none⟩) 1 1]) := by
  have hx : 1 ≤ xs.length := by
    cases xs with
    | nil => exact absurd rfl h0
    | cons _ _ => simp
  refine ownC hm Tryz.func13 (by kernel_rfl) rfl rfl (fun _ _ => ⟨trivial, trivial, trivial, trivial⟩) (fun _ _ => by simp) ?_
  (first | refine wX ?_ | exact wZ)
  refine brdF (by have : ((xs.length : Int).tmod 2) = 0 := by rw [Int.tmod_eq_emod_of_nonneg (by omega)]; omega
                  simp [this]) ?_
  (first | refine wX ?_ | exact wZ)
  refine brdF (by cases hq : Nat.beq xs.length 0 with
                  | false => rfl
                  | true => have := Nat.eq_of_beq_eq_true hq; omega) ?_
  refine Nd.mk rfl ?_
  refine ApN.intro xs (Nat.mul_one _).symm h1 (fun w hw j v hv => hw.1.sl.cell hv) ?_
  (conv => whnf)
  refine AppN.new xs ⟨rfl, rfl, rfl⟩ (plains_vs xs) ⟨hx, ⟨by show (0 + xs.length) * 16 ≤ _; omega, by omega⟩, by show 1 ≠ 0; omega⟩ fun c k hk hm => ?_
  (conv => whnf)
  refine BoxN.known _ rfl fun b => ?_
  (conv => whnf)
  exact ⟨(b, c, k), trivial, rfl, by (repeat' (first | exact trivial | exact wkE_refl _ | refine And.intro ?_ ?_))⟩
end Go.Proofs.YteljlkkppaobeaaGreatDoor

/-
  Contract: (*strings.byteStringReplacer).Replace: each byte replaced by what the table holds.
-/
namespace Go.Proofs.YteljlkkppaobeaaGreatDoor
open Go.AX Go.RowKit
set_option maxRecDepth 20000

/-- The table's cells. -/
structure Tbl where
  b : Nat
  cells : List Value
  ta : Option Addr
  tcap : Nat
/-- What a table says: the bytes that are replaced, each by its text. -/
structure TblOk (f : UInt8 → List UInt8) (olds : List UInt8) (d : Tbl) : Prop where
  len : d.cells.length = 257
  last : d.cells[256]? = some (.slice d.ta olds.length d.tcap)
  tas : d.ta.isSome = true
  cell : ∀ c : UInt8, (c ∉ olds ∧ f c = [c] ∧ d.cells[c.toNat]? = some (.slice none 0 0)) ∨ (c ∈ olds ∧ ∃ a cap, d.cells[c.toNat]? = some (.slice (some a) (f c).length cap))
  nodup : olds.Nodup
  small : ∀ c, 1 ≤ (f c).length ∧ (f c).length ≤ 6
  few : olds.length ≤ 16
def TblF (f : UInt8 → List UInt8) (olds : List UInt8) (d : Tbl) (w : World) : Prop :=
  SlAt (some ⟨d.b, 0, none⟩) 257 d.cells w ∧ SlAt d.ta olds.length (olds.map fun c => .string (bs [c])) w ∧ ∀ c : UInt8, ∀ a cap, d.cells[c.toNat]? = some (.slice (some a) (f c).length cap) → SlAt (some a) (f c).length (u8s (f c)) w
/-- What the replaced bytes add. -/
def gain (f : UInt8 → List UInt8) (s : List UInt8) : List UInt8 → Nat
  | [] => 0
  | c :: l => s.count c * ((f c).length - 1) + gain f s l
theorem gain_snoc (f : UInt8 → List UInt8) (s : List UInt8) (c : UInt8) : ∀ l, gain f s (l ++ [c]) = gain f s l + s.count c * ((f c).length - 1)
  | [] => by simp [gain]
  | x :: l => by simp only [List.cons_append, gain, gain_snoc f s c l]; omega
theorem gain_take (f : UInt8 → List UInt8) (s : List UInt8) : ∀ (i : Nat) (l : List UInt8), gain f s (l.take i) ≤ gain f s l
  | _, [] => by simp
  | 0, _ :: _ => by simp [gain]
  | i + 1, c :: l => by
    have := gain_take f s i l
    simp only [List.take_succ_cons, gain]
    omega
theorem gain_nil (f : UInt8 → List UInt8) : ∀ l, gain f [] l = 0
  | [] => rfl
  | _ :: l => by simp [gain, gain_nil f l]
theorem gain_cons (f : UInt8 → List UInt8) (a : UInt8) (s : List UInt8) : ∀ l : List UInt8, l.Nodup → gain f (a :: s) l = gain f s l + if a ∈ l then (f a).length - 1 else 0
  | [], _ => by simp [gain]
  | c :: l, h => by
    rw [List.nodup_cons] at h
    have ih := gain_cons f a s l h.2
    simp only [gain, ih, List.count_cons, List.mem_cons]
    by_cases hac : a = c
    · subst hac
      simp [h.1, Nat.add_mul]; omega
    · simp [hac]; omega
theorem gain_app (f : UInt8 → List UInt8) (s t : List UInt8) : ∀ l, gain f (s ++ t) l = gain f s l + gain f t l
  | [] => rfl
  | c :: l => by
    simp only [gain, gain_app f s t l, List.count_append, Nat.add_mul]
    omega
theorem gain_all {f : UInt8 → List UInt8} {olds : List UInt8} {d : Tbl} (hd : TblOk f olds d) : ∀ s, (s.flatMap f).length = s.length + gain f s olds
  | [] => by simp [gain_nil]
  | a :: s => by
    have h1 := (hd.small a).1
    rw [List.flatMap_cons, List.length_append, gain_all hd s, gain_cons f a s olds hd.nodup, List.length_cons]
    rcases hd.cell a with ⟨h2, h3, _⟩ | ⟨h2, _⟩
    · simp [h2, h3]; omega
    · simp [h2]; omega
theorem flat_none {f : UInt8 → List UInt8} {olds : List UInt8} {d : Tbl} (hd : TblOk f olds d) : ∀ s : List UInt8, (s.any fun c => decide (c ∈ olds)) = false → s.flatMap f = s
  | [], _ => rfl
  | a :: s, h => by
    simp only [List.any_cons, Bool.or_eq_false_iff, decide_eq_false_iff_not] at h
    rcases hd.cell a with ⟨_, h3, _⟩ | ⟨h2, _⟩
    · rw [List.flatMap_cons, flat_none hd s h.2, h3]; rfl
    · exact absurd h2 h.1
theorem any_count (s : List UInt8) (l : List UInt8) : (l.any fun c => s.count c != 0) = s.any fun c => decide (c ∈ l) := by
  rw [Bool.eq_iff_iff]
  simp only [List.any_eq_true, decide_eq_true_eq, bne_iff_ne]
  constructor
  · rintro ⟨c, h1, h2⟩
    exact ⟨c, List.count_pos_iff.1 (by omega), h1⟩
  · rintro ⟨c, h1, h2⟩
    exact ⟨c, h2, by have := List.count_pos_iff.2 h1; omega⟩
theorem flat_short {f : UInt8 → List UInt8} {olds : List UInt8} {d : Tbl} (hd : TblOk f olds d) (s : List UInt8) : (s.flatMap f).length ≤ 6 * s.length := by
  induction s with
  | nil => simp
  | cons a s ih =>
    have := (hd.small a).2
    rw [List.flatMap_cons, List.length_append, List.length_cons]
    omega
theorem put_buf (P q : List UInt8) (N : Nat) (_ : P.length + q.length ≤ N) : (u8s P ++ List.replicate (N - P.length) (Value.int .u8 0)).take P.length ++ u8s q ++ (u8s P ++ List.replicate (N - P.length) (Value.int .u8 0)).drop (P.length + q.length) = u8s (P ++ q) ++ List.replicate (N - (P ++ q).length) (Value.int .u8 0) := by
  have e : (u8s P).length = P.length := u8s_len P
  rw [List.take_append_of_le_length (by omega), List.take_of_length_le (by omega), List.drop_append, e, List.drop_of_length_le (by omega), List.nil_append, List.drop_replicate, List.length_append]
  rw [show P.length + q.length - P.length = q.length by omega, show N - P.length - q.length = N - (P.length + q.length) by omega]
  simp [u8s]
theorem bsr_c (f : UInt8 → List UInt8) (olds : List UInt8) (d : Tbl) (hd : TblOk f olds d) (s : List UInt8) (hs : s.length ≤ 1000000) : ∀ H, (∀ w, Facts H w → TblF f olds d w) →
    SpecH Tryz.prog 135 (pvs [.pointer (some ⟨d.b, 0, none⟩), .string (bs s)]) H (Ret (.string (bs (s.flatMap f))) H) := by
  refine factC hm Tryz.func135 (by kernel_rfl) rfl rfl ?_
  (first | refine wX ?_ | exact wZ)
  refine LdN.one (a := some ⟨d.b, 0, none⟩) (q := 256) (.slice d.ta olds.length d.tcap) rfl (fun w hw => hw.1.1) hd.last ?_
  have hfew := hd.few
  have hz := bs_size s
  have hall := gain_all hd s
  have hsh := flat_short hd s
  (first | refine wX ?_ | exact wZ)
  rw [hz]
  refine brd_dec (fun h1 => ?_) (fun h1 => ?_)
  · (first | refine wX ?_ | exact wZ)
    refine LdN.one (a := some ⟨d.b, 0, none⟩) (q := 256) (.slice d.ta olds.length d.tcap) rfl (fun w hw => hw.1.1) hd.last ?_
    (first | refine wX ?_ | exact wZ)
    refine loopS Nat (fun i => i ≤ olds.length) (fun i => mkS Tryz.f135.ntmps 0 [(0, .c (.v (.pointer (some ⟨d.b, 0, none⟩)))), (1, .c (.v (.string (bs s)))), (5, .c (.v (.int .i64 ((s.length + gain f s (olds.take i) : Nat) : Int)))), (6, .c (.v (.bool ((olds.take i).any fun c => s.count c != 0)))), (30, .c (.v (.slice d.ta olds.length d.tcap))), (31, .c (.v (.int .i64 (olds.length : Int)))), (32, .c (.v (.int .i64 (i : Int))))]) (fun i => olds.length - i) rfl (fun _ => rfl) 0 (Nat.zero_le _) ?_ fun i hi => ?_
    · (repeat' (first | exact trivial | refine And.intro (by with_reducible rfl) ?_ | (with_reducible exact wkC_refl _) | (with_reducible exact wkCs_refl _) | refine And.intro ?_ ?_))
      all_goals first | rfl | (refine av_int ?_; simp [gain]; done)
    (first | refine wX ?_ | exact wZ)
    refine brd_dec (fun h2 => ?_) (fun h2 => ?_)
    · obtain ⟨c, hc⟩ : ∃ c, olds[i]? = some c := ⟨_, List.getElem?_eq_getElem (by omega)⟩
      have hin : c ∈ olds := List.mem_of_getElem? hc
      have hg := gain_snoc f s c (olds.take i)
      rw [← take_snoc hc] at hg
      (first | refine wX ?_ | exact wZ)
      refine Nd.mk ⟨hd.tas, by omega, by omega⟩ ?_
      (first | refine wX ?_ | exact wZ)
      refine LdN.one (.string (bs [c])) rfl (fun w hw => hw.1.2.1) (show (olds.map fun c => Value.string (bs [c]))[i * 1]? = _ by rw [Nat.mul_one]; simp [hc]) ?_
      ((first | refine wX ?_ | exact wZ); first | refine call1 (Count1_c s c _) ?_ | refine callQ (Count1_c s c _) ?_)
      (first | refine wX ?_ | exact wZ)
      have hL := hd.small c
      have hcs := List.count_le_length (a := c) (l := s)
      have hany : ((olds.take (i + 1)).any fun c => s.count c != 0) = ((olds.take i).any (fun c => s.count c != 0) || s.count c != 0) := by rw [take_snoc hc, List.any_append]; simp
      have hgb := gain_take f s i olds
      refine brd_ne (fun h3 => ?_) (fun h3 => ?_)
      · obtain ⟨a, cap, ha⟩ : ∃ a cap, d.cells[c.toNat]? = some (.slice (some a) (f c).length cap) := by
          rcases hd.cell c with h | h
          · exact absurd hin h.1
          · exact h.2
        generalize (f c).length = L at *
        (first | refine wX ?_ | exact wZ)
        refine Nd.mk ⟨by omega, by rw [bs_size]; simp⟩ ?_
        have hb0 : byteAt (bs [c]) (Int.toNat 0) = (c.toNat : Int) := byteAt_get rfl
        have hc256 := c.toNat_lt
        (conv => whnf)
        rw [hb0]
        refine Nd.mk ⟨by omega, by omega⟩ ?_
        (first | refine wX ?_ | exact wZ)
        refine LdN.fld (a := some ⟨d.b, 0, none⟩) (q := 0) (.slice (some a) L cap) rfl (fun w hw => hw.1.1) (show d.cells[0 + c.toNat * 1]? = _ by simpa using ha) ?_
        (conv => whnf)
        refine VrN.norm (m := ((s.length + gain f s (olds.take (i + 1)) : Nat) : Int)) (by
          have h6 : L = 1 ∨ L = 2 ∨ L = 3 ∨ L = 4 ∨ L = 5 ∨ L = 6 := by omega
          rw [hg]
          rcases h6 with rfl | rfl | rfl | rfl | rfl | rfl <;> (simp (disch := omega) only [wrap_i64]; omega)) ?_
        (first | refine wX ?_ | exact wZ)
        refine ⟨i + 1, by omega, by omega, ?_, by (repeat' (first | exact trivial | exact wkE_refl _ | refine And.intro ?_ ?_))⟩
        (repeat' (first | exact trivial | refine And.intro (by with_reducible rfl) ?_ | (with_reducible exact wkC_refl _) | (with_reducible exact wkCs_refl _) | refine And.intro ?_ ?_))
        · refine av_bool ?_
          rw [hany]
          have : (s.count c != 0) = true := by simp; omega
          rw [this, Bool.or_true]
        · exact av_int (by rw [wrap_i64 (by omega)]; omega)
      · (first | refine wX ?_ | exact wZ)
        refine ⟨i + 1, by omega, by omega, ?_, by (repeat' (first | exact trivial | exact wkE_refl _ | refine And.intro ?_ ?_))⟩
        have h0 : s.count c = 0 := by omega
        (repeat' (first | exact trivial | refine And.intro (by with_reducible rfl) ?_ | (with_reducible exact wkC_refl _) | (with_reducible exact wkCs_refl _) | refine And.intro ?_ ?_))
        · refine av_int ?_
          rw [hg, h0]
          simp
        · refine av_bool ?_
          rw [hany, h0]
          simp
        · exact av_int (by rw [wrap_i64 (by omega)]; omega)
    · have hil : i = olds.length := by omega
      subst hil
      rw [List.take_length, any_count, ← hall]
      cases hA : s.any fun c => decide (c ∈ olds) with
      | false =>
        rw [flat_none hd s hA] at *
        (first | refine wX ?_ | exact wZ)
      | true =>
        generalize hN : (s.flatMap f).length = N at *
        (first | refine wX ?_ | exact wZ)
        refine EffW.mkBytes N rfl Tryz.underlying40 (by kernel_rfl) rfl rfl (by omega) fun b => ?_
        (first | refine wX ?_ | exact wZ)
        refine LoopN.intro Nat (fun i => i ≤ s.length) (fun i => mkS Tryz.f135.ntmps 0 [(0, .c (.v (.pointer (some ⟨d.b, 0, none⟩)))), (1, .c (.v (.string (bs s)))), (12, .c (.v (.slice (some ⟨b, 0, none⟩) N N))), (13, .c (.v (.int .i64 (((s.take i).flatMap f).length : Int)))), (14, .c (.v (.int .i64 (i : Int))))])
          (fun i => [.fact (TblF f olds d), .app 5 1 (u8s ((s.take i).flatMap f) ++ List.replicate (N - ((s.take i).flatMap f).length) (.int .u8 0)) (some ⟨b, 0, none⟩) N N]) (fun i => s.length - i) [] rfl
          (fun _ => rfl) (fun _ => rfl) (fun _ _ => okHB_eq rfl) ⟨0, Nat.zero_le _, ?_, wkH_of_eq (by simp [u8s])⟩ ?_
        · (repeat' (first | exact trivial | refine And.intro (by with_reducible rfl) ?_ | (with_reducible exact wkC_refl _) | (with_reducible exact wkCs_refl _) | refine And.intro ?_ ?_))
          all_goals rfl
        intro i hi
        (first | refine wX ?_ | exact wZ)
        rw [hz]
        refine brd_dec (fun h2 => ?_) (fun h2 => ?_)
        · obtain ⟨c, hc⟩ : ∃ c, s[i]? = some c := ⟨_, List.getElem?_eq_getElem (by omega)⟩
          have hb : byteAt (bs s) (Int.toNat (i : Int)) = (c.toNat : Int) := by rw [Int.toNat_natCast]; exact byteAt_get hc
          have hc256 := c.toNat_lt
          have hnext : (s.take (i + 1)).flatMap f = (s.take i).flatMap f ++ f c := by rw [take_snoc hc, List.flatMap_append]; simp
          have hle : ((s.take (i + 1)).flatMap f).length ≤ N := by
            rw [← hN]
            conv => rhs; rw [← List.take_append_drop (i + 1) s, List.flatMap_append, List.length_append]
            omega
          rw [hnext, List.length_append] at hle
          have hL := hd.small c
          generalize (s.take i).flatMap f = P at *
          (first | refine wX ?_ | exact wZ)
          rw [hb]
          rcases hd.cell c with ⟨_, hfc, ha⟩ | ⟨_, a, cap, ha⟩
          · refine LdN.fld (a := some ⟨d.b, 0, none⟩) (q := 0) (.slice none 0 0) rfl (fun w hw => hw.1.1) (show d.cells[0 + c.toNat * 1]? = _ by simpa using ha) ?_
            (first | refine wX ?_ | exact wZ)
            refine Nd.mk ⟨rfl, by omega, by rw [hfc] at hle; simp at hle; omega⟩ ?_
            (first | refine wX ?_ | exact wZ)
            refine EffW.app (i := 1) (q := P.length) (ys := [.int .u8 (c.toNat : Int)]) rfl (by rw [Int.toNat_natCast]; show AV.c (CV.v (Value.pointer (some ((⟨b, 0, none⟩ : Addr).add (P.length * 1))))) = _; rw [add_lit0, Nat.mul_one]) rfl rfl rfl rfl rfl (by rw [hfc] at hle; simp at hle ⊢; omega) ?_
            (first | refine wX ?_ | exact wZ)
            refine ⟨i + 1, by omega, by omega, ?_, ⟨wkE_refl _, ?_, wkH_nil _⟩⟩
            · (repeat' (first | exact trivial | refine And.intro (by with_reducible rfl) ?_ | (with_reducible exact wkC_refl _) | (with_reducible exact wkCs_refl _) | refine And.intro ?_ ?_))
              · refine av_int ?_
                rw [hnext, hfc]
                simp
              · exact av_int (by omega)
            · rw [hnext, hfc]
              have e := put_buf P [c] N (by rw [hfc] at hle; exact hle)
              refine .inl ⟨rfl, rfl, ?_, rfl, rfl, rfl⟩
              exact e
          · refine LdN.fld (a := some ⟨d.b, 0, none⟩) (q := 0) (.slice (some a) (f c).length cap) rfl (fun w hw => hw.1.1) (show d.cells[0 + c.toNat * 1]? = _ by simpa using ha) ?_
            (first | refine wX ?_ | exact wZ)
            refine DrawN.plan [0, 1, 2, 4, 5] [(3, 1), (6, 1), (7, 1), (8, 1), (9, 1)] [(10, 0), (11, 0), (12, 0)] (by decide +kernel) ?_
            (first | refine wX ?_ | exact wZ)
            refine ReadW.slc_l P.length rfl Tryz.underlying40 (by kernel_rfl) rfl rfl ⟨rfl, by omega, by omega, by omega⟩ ?_
            (first | refine wX ?_ | exact wZ)
            refine LdN.fld (a := some ⟨d.b, 0, none⟩) (q := 0) (.slice (some a) (f c).length cap) rfl (fun w hw => hw.1.1) (show d.cells[0 + c.toNat * 1]? = _ by simpa using ha) ?_
            (first | refine wX ?_ | exact wZ)
            refine EffW.copyIn 1 rfl rfl rfl Tryz.underlying40 (by kernel_rfl) rfl rfl rfl (fun w hw => hw.1.2.2 c a cap ha) (by simp [u8s, Value.oneCell']) (by omega) (by omega) ?_
            (first | refine wX ?_ | exact wZ)
            refine ⟨i + 1, by omega, by omega, ?_, ⟨wkE_refl _, ?_, wkH_nil _⟩⟩
            · (repeat' (first | exact trivial | refine And.intro (by with_reducible rfl) ?_ | (with_reducible exact wkC_refl _) | (with_reducible exact wkCs_refl _) | refine And.intro ?_ ?_))
              · refine av_int ?_
                rw [hnext]
                simp
              · exact av_int (by omega)
            · rw [hnext]
              exact .inl ⟨rfl, rfl, put_buf P (f c) N hle, rfl, rfl, rfl⟩
        · have hil : i = s.length := by omega
          subst hil
          rw [List.take_length, hN, Nat.sub_self, List.replicate_zero, List.append_nil]
          (first | refine wX ?_ | exact wZ)
          refine ReadW.bytes (s.flatMap f) hN rfl Tryz.underlying40 Tryz.underlying5 Tryz.underlying9 rfl (fun w hw => by have := hw.2.1; rwa [Nat.mul_one] at this) ?_
          (first | refine wX ?_ | exact wZ)
          rfl
  · (first | refine wX ?_ | exact wZ)
    refine loopS Nat (fun i => i ≤ s.length) (fun i => mkS Tryz.f135.ntmps 0 [(0, .c (.v (.pointer (some ⟨d.b, 0, none⟩)))), (1, .c (.v (.string (bs s)))), (5, .c (.v (.int .i64 ((s.length + gain f (s.take i) olds : Nat) : Int)))), (6, .c (.v (.bool ((s.take i).any fun c => decide (c ∈ olds))))), (10, .c (.v (.int .i64 (i : Int))))]) (fun i => s.length - i) rfl (fun _ => rfl) 0 (Nat.zero_le _) ?_ fun i hi => ?_
    · (repeat' (first | exact trivial | refine And.intro (by with_reducible rfl) ?_ | (with_reducible exact wkC_refl _) | (with_reducible exact wkCs_refl _) | refine And.intro ?_ ?_))
      all_goals first | rfl | (refine av_int ?_; simp [gain_nil]; done)
    (first | refine wX ?_ | exact wZ)
    rw [hz]
    refine brd_dec (fun h2 => ?_) (fun h2 => ?_)
    · obtain ⟨c, hc⟩ : ∃ c, s[i]? = some c := ⟨_, List.getElem?_eq_getElem (by omega)⟩
      have hb : byteAt (bs s) (Int.toNat (i : Int)) = (c.toNat : Int) := by rw [Int.toNat_natCast]; exact byteAt_get hc
      have hc256 := c.toNat_lt
      have hg : gain f (s.take (i + 1)) olds = gain f (s.take i) olds + if c ∈ olds then (f c).length - 1 else 0 := by
        rw [take_snoc hc, gain_app f _ _ olds, gain_cons f c [] olds hd.nodup, gain_nil]
        omega
      have hany : ((s.take (i + 1)).any fun c => decide (c ∈ olds)) = ((s.take i).any (fun c => decide (c ∈ olds)) || decide (c ∈ olds)) := by rw [take_snoc hc, List.any_append]; simp
      have hL := hd.small c
      have hgb := gain_all hd (s.take i)
      have hgs := flat_short hd (s.take i)
      have hti : (s.take i).length ≤ s.length := by simp; omega
      (first | refine wX ?_ | exact wZ)
      rw [hb]
      rcases hd.cell c with ⟨hin, hfc, ha⟩ | ⟨hin, a, cap, ha⟩
      · refine LdN.fld (a := some ⟨d.b, 0, none⟩) (q := 0) (.slice none 0 0) rfl (fun w hw => hw.1.1) (show d.cells[0 + c.toNat * 1]? = _ by simpa using ha) ?_
        (first | refine wX ?_ | exact wZ)
        refine ⟨i + 1, by omega, by omega, ?_, by (repeat' (first | exact trivial | exact wkE_refl _ | refine And.intro ?_ ?_))⟩
        (repeat' (first | exact trivial | refine And.intro (by with_reducible rfl) ?_ | (with_reducible exact wkC_refl _) | (with_reducible exact wkCs_refl _) | refine And.intro ?_ ?_))
        · refine av_int ?_
          rw [hg]
          simp [hin]
        · refine av_bool ?_
          rw [hany]
          simp [hin]
        · exact av_int (by omega)
      · rw [if_pos hin] at hg
        refine LdN.fld (a := some ⟨d.b, 0, none⟩) (q := 0) (.slice (some a) (f c).length cap) rfl (fun w hw => hw.1.1) (show d.cells[0 + c.toNat * 1]? = _ by simpa using ha) ?_
        (first | refine wX ?_ | exact wZ)
        refine LdN.fld (a := some ⟨d.b, 0, none⟩) (q := 0) (.slice (some a) (f c).length cap) rfl (fun w hw => hw.1.1) (show d.cells[0 + c.toNat * 1]? = _ by simpa using ha) ?_
        (conv => whnf)
        refine VrN.norm (m := ((s.length + gain f (s.take (i + 1)) olds : Nat) : Int)) (by
          rw [hg, wrap_i64 (x := ((f c).length : Int) - 1) (by omega), wrap_i64 (by omega)]
          omega) ?_
        (first | refine wX ?_ | exact wZ)
        refine ⟨i + 1, by omega, by omega, ?_, by (repeat' (first | exact trivial | exact wkE_refl _ | refine And.intro ?_ ?_))⟩
        (repeat' (first | exact trivial | refine And.intro (by with_reducible rfl) ?_ | (with_reducible exact wkC_refl _) | (with_reducible exact wkCs_refl _) | refine And.intro ?_ ?_))
        · refine av_bool ?_
          rw [hany]
          simp [hin]
        · exact av_int (by omega)
    · have hil : i = s.length := by omega
      subst hil
      rw [List.take_length, ← hall]
      cases hA : s.any fun c => decide (c ∈ olds) with
      | false =>
        rw [flat_none hd s hA] at *
        (first | refine wX ?_ | exact wZ)
      | true =>
        generalize hN : (s.flatMap f).length = N at *
        (first | refine wX ?_ | exact wZ)
        refine EffW.mkBytes N rfl Tryz.underlying40 (by kernel_rfl) rfl rfl (by omega) fun b => ?_
        (first | refine wX ?_ | exact wZ)
        refine LoopN.intro Nat (fun i => i ≤ s.length) (fun i => mkS Tryz.f135.ntmps 0 [(0, .c (.v (.pointer (some ⟨d.b, 0, none⟩)))), (1, .c (.v (.string (bs s)))), (12, .c (.v (.slice (some ⟨b, 0, none⟩) N N))), (13, .c (.v (.int .i64 (((s.take i).flatMap f).length : Int)))), (14, .c (.v (.int .i64 (i : Int))))])
          (fun i => [.fact (TblF f olds d), .app 5 1 (u8s ((s.take i).flatMap f) ++ List.replicate (N - ((s.take i).flatMap f).length) (.int .u8 0)) (some ⟨b, 0, none⟩) N N]) (fun i => s.length - i) [] rfl
          (fun _ => rfl) (fun _ => rfl) (fun _ _ => okHB_eq rfl) ⟨0, Nat.zero_le _, ?_, wkH_of_eq (by simp [u8s])⟩ ?_
        · (repeat' (first | exact trivial | refine And.intro (by with_reducible rfl) ?_ | (with_reducible exact wkC_refl _) | (with_reducible exact wkCs_refl _) | refine And.intro ?_ ?_))
          all_goals rfl
        intro i hi
        (first | refine wX ?_ | exact wZ)
        rw [hz]
        refine brd_dec (fun h2 => ?_) (fun h2 => ?_)
        · obtain ⟨c, hc⟩ : ∃ c, s[i]? = some c := ⟨_, List.getElem?_eq_getElem (by omega)⟩
          have hb : byteAt (bs s) (Int.toNat (i : Int)) = (c.toNat : Int) := by rw [Int.toNat_natCast]; exact byteAt_get hc
          have hc256 := c.toNat_lt
          have hnext : (s.take (i + 1)).flatMap f = (s.take i).flatMap f ++ f c := by rw [take_snoc hc, List.flatMap_append]; simp
          have hle : ((s.take (i + 1)).flatMap f).length ≤ N := by
            rw [← hN]
            conv => rhs; rw [← List.take_append_drop (i + 1) s, List.flatMap_append, List.length_append]
            omega
          rw [hnext, List.length_append] at hle
          have hL := hd.small c
          generalize (s.take i).flatMap f = P at *
          (first | refine wX ?_ | exact wZ)
          rw [hb]
          rcases hd.cell c with ⟨_, hfc, ha⟩ | ⟨_, a, cap, ha⟩
          · refine LdN.fld (a := some ⟨d.b, 0, none⟩) (q := 0) (.slice none 0 0) rfl (fun w hw => hw.1.1) (show d.cells[0 + c.toNat * 1]? = _ by simpa using ha) ?_
            (first | refine wX ?_ | exact wZ)
            refine Nd.mk ⟨rfl, by omega, by rw [hfc] at hle; simp at hle; omega⟩ ?_
            (first | refine wX ?_ | exact wZ)
            refine EffW.app (i := 1) (q := P.length) (ys := [.int .u8 (c.toNat : Int)]) rfl (by rw [Int.toNat_natCast]; show AV.c (CV.v (Value.pointer (some ((⟨b, 0, none⟩ : Addr).add (P.length * 1))))) = _; rw [add_lit0, Nat.mul_one]) rfl rfl rfl rfl rfl (by rw [hfc] at hle; simp at hle ⊢; omega) ?_
            (first | refine wX ?_ | exact wZ)
            refine ⟨i + 1, by omega, by omega, ?_, ⟨wkE_refl _, ?_, wkH_nil _⟩⟩
            · (repeat' (first | exact trivial | refine And.intro (by with_reducible rfl) ?_ | (with_reducible exact wkC_refl _) | (with_reducible exact wkCs_refl _) | refine And.intro ?_ ?_))
              · refine av_int ?_
                rw [hnext, hfc]
                simp
              · exact av_int (by omega)
            · rw [hnext, hfc]
              have e := put_buf P [c] N (by rw [hfc] at hle; exact hle)
              refine .inl ⟨rfl, rfl, ?_, rfl, rfl, rfl⟩
              exact e
          · refine LdN.fld (a := some ⟨d.b, 0, none⟩) (q := 0) (.slice (some a) (f c).length cap) rfl (fun w hw => hw.1.1) (show d.cells[0 + c.toNat * 1]? = _ by simpa using ha) ?_
            (first | refine wX ?_ | exact wZ)
            refine DrawN.plan [0, 1, 2, 4, 5] [(3, 1), (6, 1), (7, 1), (8, 1), (9, 1)] [(10, 0), (11, 0), (12, 0)] (by decide +kernel) ?_
            (first | refine wX ?_ | exact wZ)
            refine ReadW.slc_l P.length rfl Tryz.underlying40 (by kernel_rfl) rfl rfl ⟨rfl, by omega, by omega, by omega⟩ ?_
            (first | refine wX ?_ | exact wZ)
            refine LdN.fld (a := some ⟨d.b, 0, none⟩) (q := 0) (.slice (some a) (f c).length cap) rfl (fun w hw => hw.1.1) (show d.cells[0 + c.toNat * 1]? = _ by simpa using ha) ?_
            (first | refine wX ?_ | exact wZ)
            refine EffW.copyIn 1 rfl rfl rfl Tryz.underlying40 (by kernel_rfl) rfl rfl rfl (fun w hw => hw.1.2.2 c a cap ha) (by simp [u8s, Value.oneCell']) (by omega) (by omega) ?_
            (first | refine wX ?_ | exact wZ)
            refine ⟨i + 1, by omega, by omega, ?_, ⟨wkE_refl _, ?_, wkH_nil _⟩⟩
            · (repeat' (first | exact trivial | refine And.intro (by with_reducible rfl) ?_ | (with_reducible exact wkC_refl _) | (with_reducible exact wkCs_refl _) | refine And.intro ?_ ?_))
              · refine av_int ?_
                rw [hnext]
                simp
              · exact av_int (by omega)
            · rw [hnext]
              exact .inl ⟨rfl, rfl, put_buf P (f c) N hle, rfl, rfl, rfl⟩
        · have hil : i = s.length := by omega
          subst hil
          rw [List.take_length, hN, Nat.sub_self, List.replicate_zero, List.append_nil]
          (first | refine wX ?_ | exact wZ)
          refine ReadW.bytes (s.flatMap f) hN rfl Tryz.underlying40 Tryz.underlying5 Tryz.underlying9 rfl (fun w hw => by have := hw.2.1; rwa [Nat.mul_one] at this) ?_
          (first | refine wX ?_ | exact wZ)
          rfl
end Go.Proofs.YteljlkkppaobeaaGreatDoor

/-
  sync.Once, one goroutine: the parts of its slow road, after the kit's worked LazyParts.
-/
namespace Go.Proofs.YteljlkkppaobeaaGreatDoor
set_option maxRecDepth 100000
set_option maxHeartbeats 1600000

theorem disable (w : World) : (callFunc 81 #[]).run Tryz.prog w = .ok (.value (.tuple #[])) w := run_call_mark0 Tryz.func81 (by kernel_rfl) (by kernel_rfl) (by kernel_rfl) .disable (by kernel_rfl) w
theorem enable (w : World) : (callFunc 83 #[]).run Tryz.prog w = .ok (.value (.tuple #[])) w := run_call_mark0 Tryz.func83 (by kernel_rfl) (by kernel_rfl) (by kernel_rfl) .enable (by kernel_rfl) w
theorem acquire (a : Addr) (w : World) : (callFunc 84 #[.pointer (some a)]).run Tryz.prog w = .ok (.value (.tuple #[])) w := run_call_marked Tryz.func84 (by kernel_rfl) (by kernel_rfl) (by kernel_rfl) .acquire (by kernel_rfl) a w
theorem releaseMerge (a : Addr) (w : World) : (callFunc 86 #[.pointer (some a)]).run Tryz.prog w = .ok (.value (.tuple #[])) w := run_call_marked Tryz.func86 (by kernel_rfl) (by kernel_rfl) (by kernel_rfl) .releaseMerge (by kernel_rfl) a w

/-- '(*sync/atomic.Bool).Store(true)', entered as a deferred call: the cell holds 1. -/
theorem store_deferred (a : Addr) (x : Value) (u : FrameMode) (w : World) (hc : w.cell? a = some x) (hz : w.frozen? a = false) :
    CallsD Tryz.prog 48 #[.pointer (some a), .bool true] u w fun e u' w' => u' = u ∧ (e = .returned (.tuple #[]) ∧ w' = w.drew.setCell a (.int .u32 1)) := by
  have hc' : w.drew.cell? a = some x := by go_simp
  have hz' : w.drew.frozen? a = false := by go_simp
  have hst := run_call_store (P := Tryz.prog) Tryz.func68 (by kernel_rfl) (by kernel_rfl) (by kernel_rfl) (by kernel_rfl) (k := .u32) (y := 1) hc' hz'
  go_enter_d Tryz.func48, Tryz.ntmps48
  go_wp2
  go_region_calls
  all_goals (go_end0; exact ⟨rfl, rfl⟩)

/-- '(*sync.Mutex).Unlock', entered as a deferred call, the lock held and nobody waiting (state 1): state 0. -/
theorem unlock_deferred (a : Addr) (u : FrameMode) (w : World) (hc : w.cell? a = some (.int .i32 1)) (hz : w.frozen? a = false) :
    CallsD Tryz.prog 47 #[.pointer (some a)] u w fun e u' w' => u' = u ∧ (e = .returned (.tuple #[]) ∧ w' = w.setCell a (.int .i32 0)) := by
  have hd := disable
  have he := enable
  have hr := releaseMerge
  have hadd := run_call_add (P := Tryz.prog) Tryz.func87 (by kernel_rfl) (by kernel_rfl) (by kernel_rfl) .i32 (by kernel_rfl) (y := -1) (s := 0) hc hz (by simp [go_sem]; rfl)
  have hcv := run_convert_to_unsafe (P := Tryz.prog) (src := 147) (dst := 109) Tryz.underlying147 Tryz.underlying109 (by kernel_rfl) hc
  go_enter_d Tryz.func47, Tryz.ntmps47
  go_wp2
  go_end0
  go_wp2
  go_end0
  exact ⟨rfl, rfl⟩

/-- '(*sync.Mutex).Lock', the lock free (state 0): state 1. -/
theorem lock_free (a : Addr) (w : World) (hc : w.cell? a = some (.int .i32 0)) (hz : w.frozen? a = false) :
    Calls Tryz.prog 46 #[.pointer (some a)] w fun e w' => e = .returned (.tuple #[]) ∧ w' = w.setCell a (.int .i32 1) := by
  have hd := disable
  have he := enable
  have ha := acquire
  have hcas := run_call_cas_hit (P := Tryz.prog) Tryz.func82 (by kernel_rfl) (by kernel_rfl) (by kernel_rfl) .i32 (by kernel_rfl) (y := 1) hc hz
  have hc' : (w.setCell a (.int .i32 1)).cell? a = some (.int .i32 1) := World.cell?_setCell_same w a _ hc
  have hcv := run_convert_to_unsafe (P := Tryz.prog) (src := 147) (dst := 109) Tryz.underlying147 Tryz.underlying109 (by kernel_rfl) hc'
  go_enter Tryz.func46, Tryz.ntmps46
  go_wp2
  first | go_end0 | (simp only [Exit.inBlock, Exit.then]; refine bodyPost_ret (results_none rfl _ _ _) rfl ?_) | refine bodyPost_ret (results_none rfl _ _ _) rfl ?_
  go_wp2
  go_end0
  exact ⟨rfl, rfl⟩
end Go.Proofs.YteljlkkppaobeaaGreatDoor

/-
  sync.Once, one goroutine: Do, not yet done and its lock free, of a function by its contract; Do, done already.
-/
namespace Go.Proofs.YteljlkkppaobeaaGreatDoor
set_option maxRecDepth 100000
set_option maxHeartbeats 3200000

theorem slow_do (b off : Nat) (p : Value) (Q : World → Prop) (w : World)
    (h0 : w.cell? ⟨b, off, none⟩ = some (.int .u32 0)) (h1 : w.cell? ⟨b, off + 1, none⟩ = some (.int .i32 0))
    (f1 : w.frozen? ⟨b, off + 1, none⟩ = false)
    (hf : Calls Tryz.prog 20 #[p] (w.setCell ⟨b, off + 1, none⟩ (.int .i32 1)) fun e w2 => e = .returned (.tuple #[]) ∧ Q w2)
    (hQ : ∀ w2, Q w2 → (∃ x, w2.cell? ⟨b, off, none⟩ = some x) ∧ w2.cell? ⟨b, off + 1, none⟩ = some (.int .i32 1) ∧ w2.frozen? ⟨b, off, none⟩ = false ∧ w2.frozen? ⟨b, off + 1, none⟩ = false) :
    Calls Tryz.prog 32 #[.pointer (some ⟨b, off, none⟩), .func (.func 20) #[p] #[]] w fun e w' => e = .returned (.tuple #[]) ∧
      ∃ w2, Q w2 ∧ w' = (w2.drew.setCell ⟨b, off, none⟩ (.int .u32 1)).setCell ⟨b, off + 1, none⟩ (.int .i32 0) := by
  have hl := run_call_load (P := Tryz.prog) Tryz.func45 (by kernel_rfl) (by kernel_rfl) (by kernel_rfl) .u32 (by kernel_rfl) (w := w.setCell ⟨b, off + 1, none⟩ (.int .i32 1)) (a := ⟨b, off, none⟩) (x := 0) ((World.cell?_setCell_other _ ⟨b, off + 1, none⟩ ⟨b, off, none⟩ _ (by simp)).trans h0)
  have hnot : ∀ (x : Bool) (w : World), (Op.unary .not (.bool x)).run Tryz.prog w = .ok (.bool (!x)) w := fun _ _ => rfl
  go_enter_defers Tryz.func32, Tryz.ntmps32
  go_wp2_with (go_at_call 46; refine (lock_free ⟨b, off + 1, none⟩ _ (by go_simp) (by go_simp)).mono ?_; rintro e w' ⟨rfl, rfl⟩)
  go_wp2_with (first | (go_at_call 20; refine hf.mono ?_; rintro e w2 ⟨rfl, hq⟩) | (go_at_call 31; go_in))
  obtain ⟨⟨x, hx⟩, hm, z0, z1⟩ := hQ w2 hq
  go_wp2
  refine leaves_cons (f := 48) (args := #[.pointer (some ⟨b, off, none⟩), .bool true]) (by simp) (by simp [go_sem]) ?_
  refine (store_deferred ⟨b, off, none⟩ x .returning _ hx z0).mono ?_
  rintro e u' w'' ⟨rfl, rfl, rfl⟩
  refine leaves_cons (f := 47) (args := #[.pointer (some ⟨b, off + 1, none⟩)]) (by simp [settle]) (by simp [go_sem]) ?_
  refine (unlock_deferred ⟨b, off + 1, none⟩ _ _ ?_ (by simp [z1])).mono ?_
  · refine (World.cell?_setCell_other _ ⟨b, off, none⟩ ⟨b, off + 1, none⟩ _ (by simp)).trans ?_
    rw [World.cell?_drew]
    exact hm
  rintro e u' w'' ⟨rfl, rfl, rfl⟩
  simp [Leaves, settle, results, Tryz.results32]
  exact ⟨w2, hq, rfl⟩
/-- Not yet done, the lock free. -/
theorem do_first (b off : Nat) (p : Value) (Q : World → Prop) (w : World)
    (h0 : w.cell? ⟨b, off, none⟩ = some (.int .u32 0)) (h1 : w.cell? ⟨b, off + 1, none⟩ = some (.int .i32 0))
    (f1 : w.frozen? ⟨b, off + 1, none⟩ = false)
    (hf : Calls Tryz.prog 20 #[p] (w.setCell ⟨b, off + 1, none⟩ (.int .i32 1)) fun e w2 => e = .returned (.tuple #[]) ∧ Q w2)
    (hQ : ∀ w2, Q w2 → (∃ x, w2.cell? ⟨b, off, none⟩ = some x) ∧ w2.cell? ⟨b, off + 1, none⟩ = some (.int .i32 1) ∧ w2.frozen? ⟨b, off, none⟩ = false ∧ w2.frozen? ⟨b, off + 1, none⟩ = false) :
    Calls Tryz.prog 19 #[.pointer (some ⟨b, off, none⟩), .func (.func 20) #[p] #[]] w fun e w' => e = .returned (.tuple #[]) ∧
      ∃ w2, Q w2 ∧ w' = (w2.drew.setCell ⟨b, off, none⟩ (.int .u32 1)).setCell ⟨b, off + 1, none⟩ (.int .i32 0) := by
  have hl := run_call_load (P := Tryz.prog) Tryz.func45 (by kernel_rfl) (by kernel_rfl) (by kernel_rfl) .u32 (by kernel_rfl) h0
  have hnot : ∀ (x : Bool) (w : World), (Op.unary .not (.bool x)).run Tryz.prog w = .ok (.bool (!x)) w := fun _ _ => rfl
  go_enter Tryz.func19, Tryz.ntmps19
  go_wp2_with (first | (go_at_call 32; refine (slow_do b off p Q _ h0 h1 f1 hf hQ).mono ?_; rintro e w' ⟨rfl, hq⟩) | (go_at_call 31; go_in))
  go_end0
  exact ⟨rfl, hq⟩
end Go.Proofs.YteljlkkppaobeaaGreatDoor

/-
  A byte as Quote writes it.
-/
namespace Go.Proofs.YteljlkkppaobeaaGreatDoor
open Go.AX Go.RowKit Go.Opts
set_option maxRecDepth 20000

theorem flat_le {f : UInt8 → List UInt8} {m : Nat} (h : ∀ c, (f c).length ≤ m) (s : List UInt8) : (s.flatMap f).length ≤ m * s.length := by
  induction s with
  | nil => simp
  | cons c r ih =>
    have := h c
    rw [List.flatMap_cons, List.length_append, List.length_cons, Nat.mul_add, Nat.mul_one]
    omega
def qt (c : UInt8) : List UInt8 := if c == 92 || c == 34 then [92, c] else [c]
theorem qt_2 (c : UInt8) : (qt c).length ≤ 2 := by
  unfold qt
  split
  · exact Nat.le_refl 2
  · exact Nat.le_of_ble_eq_true rfl
theorem esc_qt (w : List UInt8) : escS w = w.flatMap qt := rfl
end Go.Proofs.YteljlkkppaobeaaGreatDoor

/-
  The table of bytes that are replaced, as it is filled.
-/
namespace Go.Proofs.YteljlkkppaobeaaGreatDoor
open Go.AX Go.RowKit
set_option maxRecDepth 20000

/-- The texts of bytes and what replaces them. -/
def olnw (f : UInt8 → List UInt8) : List UInt8 → List Value
  | [] => []
  | c :: l => .string (bs [c]) :: .string (bs (f c)) :: olnw f l
def tab0 (t : Nat) : List Value := List.replicate 256 (.slice none 0 0) ++ [.slice (some ⟨t, 0, none⟩) 0 2]
def tabL (T : List Value) : List (Nat × Value × Value) → List Value
  | [] => T
  | (o, v, w) :: l => tabL ((T.set 256 v).set o w) l
theorem tabL_len : ∀ (l : List (Nat × Value × Value)) (T : List Value), (tabL T l).length = T.length
  | [], _ => rfl
  | (o, v, w) :: l, T => by rw [tabL, tabL_len l]; simp
theorem tabL_other {c : Nat} (hc : c ≠ 256) : ∀ (l : List (Nat × Value × Value)) (T : List Value), c ∉ l.map (·.1) → (tabL T l)[c]? = T[c]?
  | [], _, _ => rfl
  | (o, v, w) :: l, T, h => by
    simp only [List.map_cons, List.mem_cons, not_or] at h
    rw [tabL, tabL_other hc l _ h.2, List.getElem?_set_ne (Ne.symm h.1), List.getElem?_set_ne (Ne.symm hc)]
theorem tabL_mem {c : Nat} {w : Value} (hc : c < 256) : ∀ (l : List (Nat × Value × Value)) (T : List Value), T.length = 257 → (l.map (·.1)).Nodup → (∃ v, (c, v, w) ∈ l) → (tabL T l)[c]? = some w
  | [], _, _, _, h => by obtain ⟨_, h⟩ := h; cases h
  | (o, v, x) :: l, T, hT, hn, h => by
    simp only [List.map_cons, List.nodup_cons] at hn
    obtain ⟨u, hu⟩ := h
    rcases List.mem_cons.1 hu with h | h
    · cases h
      rw [tabL, tabL_other (by omega) l _ hn.1, List.getElem?_set_self (by simp; omega)]
    · rw [tabL]
      exact tabL_mem hc l _ (by simp [hT]) hn.2 ⟨u, h⟩
theorem tabL_last {o : Nat} {v w : Value} (ho : o ≠ 256) : ∀ (l : List (Nat × Value × Value)) (T : List Value), T.length = 257 → (tabL T (l ++ [(o, v, w)]))[256]? = some v
  | [], T, hT => by
    show ((T.set 256 v).set o w)[256]? = some v
    rw [List.getElem?_set_ne ho, List.getElem?_set_self (by omega)]
  | (o', v', w') :: l, T, hT => by
    show (tabL _ (l ++ [(o, v, w)]))[256]? = some v
    exact tabL_last ho l _ (by simp [hT])
theorem tab0_len (t : Nat) : (tab0 t).length = 257 := by simp [tab0]
theorem tab0_get (t : Nat) {c : Nat} (h : c < 256) : (tab0 t)[c]? = some (.slice none 0 0) := by
  rw [tab0, List.getElem?_append_left (by simpa using h), List.getElem?_replicate, if_pos h]
/-- The rounds: the byte, the block and the room of the list of bytes, the block and the room of the text. -/
def rdL (f : UInt8 → List UInt8) : Nat → List (UInt8 × Nat × Nat × Nat × Nat) → List (Nat × Value × Value)
  | _, [] => []
  | j, (o, t, k, n, c) :: l => (o.toNat, .slice (some ⟨t, 0, none⟩) (j + 1) k, .slice (some ⟨n, 0, none⟩) (f o).length c) :: rdL f (j + 1) l
theorem rdL_keys (f : UInt8 → List UInt8) : ∀ (l : List (UInt8 × Nat × Nat × Nat × Nat)) (j : Nat), (rdL f j l).map (·.1) = l.map fun r => r.1.toNat
  | [], _ => rfl
  | (o, t, k, n, c) :: l, j => by simp [rdL, rdL_keys f l]
theorem rdL_mem (f : UInt8 → List UInt8) {o : UInt8} {t k n c : Nat} : ∀ (l : List (UInt8 × Nat × Nat × Nat × Nat)) (j : Nat), (o, t, k, n, c) ∈ l → ∃ v, (o.toNat, v, .slice (some ⟨n, 0, none⟩) (f o).length c) ∈ rdL f j l
  | [], _, h => by cases h
  | r :: l, j, h => by
    obtain ⟨o', t', k', n', c'⟩ := r
    rcases List.mem_cons.1 h with h | h
    · cases h
      exact ⟨_, List.mem_cons_self ..⟩
    · obtain ⟨v, hv⟩ := rdL_mem f l (j + 1) h
      exact ⟨v, List.mem_cons_of_mem _ hv⟩
theorem rdL_app (f : UInt8 → List UInt8) (r : UInt8 × Nat × Nat × Nat × Nat) : ∀ (l : List (UInt8 × Nat × Nat × Nat × Nat)) (j : Nat), rdL f j (l ++ [r]) = rdL f j l ++ [(r.1.toNat, .slice (some ⟨r.2.1, 0, none⟩) (j + l.length + 1) r.2.2.1, .slice (some ⟨r.2.2.2.1, 0, none⟩) (f r.1).length r.2.2.2.2)]
  | [], j => rfl
  | (o, t, k, n, c) :: l, j => by simp [rdL, rdL_app f r l (j + 1)]; omega
theorem rounds_cell (f : UInt8 → List UInt8) (l : List (UInt8 × Nat × Nat × Nat × Nat)) (hn : (l.map (·.1)).Nodup) (t0 : Nat) (c : UInt8) : (c ∉ l.map (·.1) ∧ (tabL (tab0 t0) (rdL f 0 l))[c.toNat]? = some (.slice none 0 0)) ∨ ∃ t k n cap, (c, t, k, n, cap) ∈ l ∧ (tabL (tab0 t0) (rdL f 0 l))[c.toNat]? = some (.slice (some ⟨n, 0, none⟩) (f c).length cap) := by
  have hc := c.toNat_lt
  by_cases h : c ∈ l.map (·.1)
  · obtain ⟨⟨o, t, k, n, cap⟩, hr, rfl⟩ := List.mem_map.1 h
    refine .inr ⟨t, k, n, cap, hr, tabL_mem (by omega) _ _ (tab0_len t0) ?_ (rdL_mem f l 0 hr)⟩
    rw [rdL_keys]
    have : (l.map fun r => r.1.toNat) = (l.map (·.1)).map UInt8.toNat := by simp
    rw [this]
    exact List.Pairwise.map UInt8.toNat (fun a b h h2 => h (UInt8.toNat_inj.1 h2)) hn
  · refine .inl ⟨h, ?_⟩
    rw [tabL_other (by omega), tab0_get t0 (by omega)]
    rw [rdL_keys]
    intro h2
    obtain ⟨r, hr, he⟩ := List.mem_map.1 h2
    exact h (List.mem_map.2 ⟨r, hr, UInt8.toNat_inj.1 he⟩)
theorem rounds_ok (f : UInt8 → List UInt8) (l : List (UInt8 × Nat × Nat × Nat × Nat)) (r : UInt8 × Nat × Nat × Nat × Nat) (hn : ((l ++ [r]).map (·.1)).Nodup) (t0 tb : Nat) (hf : ∀ c, c ∉ (l ++ [r]).map (·.1) → f c = [c]) (hs : ∀ c, 1 ≤ (f c).length ∧ (f c).length ≤ 6) (hl : l.length ≤ 15) :
    TblOk f ((l ++ [r]).map (·.1)) ⟨tb, tabL (tab0 t0) (rdL f 0 (l ++ [r])), some ⟨r.2.1, 0, none⟩, r.2.2.1⟩ := by
  refine ⟨by rw [tabL_len, tab0_len], ?_, rfl, fun c => ?_, hn, hs, by simp; omega⟩
  · have := r.1.toNat_lt
    rw [rdL_app, tabL_last (by omega) _ _ (tab0_len t0)]
    simp
  · rcases rounds_cell f (l ++ [r]) hn t0 c with ⟨h1, h2⟩ | ⟨t, k, n, cap, h1, h2⟩
    · exact .inl ⟨h1, hf c h1, h2⟩
    · exact .inr ⟨List.mem_map.2 ⟨_, h1, rfl⟩, _, _, h2⟩
theorem rounds_fact (f : UInt8 → List UInt8) (l : List (UInt8 × Nat × Nat × Nat × Nat)) (hn : (l.map (·.1)).Nodup) (t0 : Nat) {w : World} (h : ∀ o t k n cap, (o, t, k, n, cap) ∈ l → SlAt (some ⟨n, 0, none⟩) (f o).length (u8s (f o)) w) :
    ∀ c : UInt8, ∀ a cap, (tabL (tab0 t0) (rdL f 0 l))[c.toNat]? = some (.slice (some a) (f c).length cap) → SlAt (some a) (f c).length (u8s (f c)) w := by
  intro c a cap hc
  rcases rounds_cell f l hn t0 c with ⟨_, h2⟩ | ⟨t, k, n, cap', h1, h2⟩
  · rw [h2] at hc; cases hc
  · rw [h2] at hc
    cases hc
    exact h c t k n _ h1
end Go.Proofs.YteljlkkppaobeaaGreatDoor

/-
  Contract: (*strings.Replacer).Replace, for the first time: the bytes that Quote replaces.
-/
namespace Go.Proofs.YteljlkkppaobeaaGreatDoor
open Go.AX Go.RowKit Go.Opts
set_option maxRecDepth 20000

theorem qt_sz (c : UInt8) : 1 ≤ (qt c).length ∧ (qt c).length ≤ 6 := by
  have := qt_2 c
  refine ⟨?_, by omega⟩
  unfold qt
  split
  · exact Nat.le_of_ble_eq_true rfl
  · exact Nat.le_refl 1
/-- The bytes that are replaced, from the back. -/
def qpL : List UInt8 := [34, 92]
theorem qt_other (c : UInt8) (h : c ∉ qpL) : qt c = [c] := by
  simp only [qpL, List.mem_cons, List.not_mem_nil, or_false, not_or] at h
  unfold qt
  simp [h]
set_option maxHeartbeats 4000000 in
theorem first_qt (s : List UInt8) (b c k : Nat) (hs : s.length ≤ 1000000) : SpecH Tryz.prog 14 (pvs [.pointer (some ⟨b, 0, none⟩), .string (bs s)]) [.app 9 1 (olnw qt qpL.reverse) (some ⟨c, 0, none⟩) 4 k, .app 69 5 (replC 0 0 .nilIface (some ⟨c, 0, none⟩) 4 k) (some ⟨b, 0, none⟩) 1 1]
    (RetG (TblOk qt qpL) (fun _ => .string (bs (s.flatMap qt))) fun d => [.dead, .fact fun w => SlAt (some ⟨b, 0, none⟩) 5 (replC 1 0 (.iface 108 (.pointer (some ⟨d.b, 0, none⟩))) none 0 0) w ∧ TblF qt qpL d w]) := by
  refine SpecH.seal (fun _ _ => Nat.le_refl _) ?_
  refine spec_of_exec hm Tryz.func14 (by kernel_rfl) rfl rfl ?_
  (first | refine wX ?_ | exact wZ)
  refine SpecH.args (args' := pvs [.pointer (some ⟨b, 0, none⟩), .func (.func 20) #[.pointer (some ⟨b, 0, none⟩)] #[]]) (by simp [pvs, opvs, opv, nth, plainEv]; rfl) ?_
  refine SpecH.once (P := Tryz.prog) (fd := 19) (fb := 20) (p := .pointer (some ⟨b, 0, none⟩)) (T := 69) (m := 5) (b := b) (xs := replC 0 0 .nilIface (some ⟨c, 0, none⟩) 4 k) (H := [.app 9 1 (olnw qt qpL.reverse) (some ⟨c, 0, none⟩) 4 k, .app 69 5 (replC 0 0 .nilIface (some ⟨c, 0, none⟩) 4 k) (some ⟨b, 0, none⟩) 1 1]) (callOk Tryz.func19 (by kernel_rfl) rfl) 1 rfl rfl rfl (fun Q w => do_first b 0 _ Q w) ?_
  refine spec_of_exec hm Tryz.func20 (by kernel_rfl) rfl rfl ?_
  (first | refine wX ?_ | exact wZ)
  refine spec_of_exec hm Tryz.func33 (by kernel_rfl) rfl rfl ?_
  (first | refine wX ?_ | exact wZ)
  refine LdN.one (a := some ⟨b, 0, none⟩) (q := 4) (.slice (some ⟨c, 0, none⟩) 4 k) rfl (fun w hw => hw.2.1) rfl ?_
  (first | refine wX ?_ | exact wZ)
  refine LoopN.unroll 3 ?_
  ((conv => whnf); (repeat ((first | refine VrN.norm (wrap_i64 (by omega)) ?_ | refine VrN.keep ?_ | refine Nd.mk (by decide +kernel) ?_ | refine Nd.mk (by omega) ?_ | refine Nd.mk ⟨rfl, by decide +kernel, by decide +kernel⟩ ?_ | refine LdN.one _ rfl (fun w hw => hw.1) rfl ?_); (conv => whnf))))
  refine EffW.mkEmpty 2 rfl Tryz.underlying22 rfl rfl rfl rfl (by decide +kernel) fun t => ?_
  ((conv => whnf); (repeat ((first | refine VrN.norm (wrap_i64 (by omega)) ?_ | refine VrN.keep ?_ | refine Nd.mk (by decide +kernel) ?_ | refine Nd.mk (by omega) ?_ | refine Nd.mk ⟨rfl, by decide +kernel, by decide +kernel⟩ ?_ | refine LdN.one _ rfl (fun w hw => hw.1) rfl ?_); (conv => whnf))))
  refine BoxN.known _ rfl fun tb => ?_
  ((conv => whnf); (repeat ((first | refine VrN.norm (wrap_i64 (by omega)) ?_ | refine VrN.keep ?_ | refine Nd.mk (by decide +kernel) ?_ | refine Nd.mk (by omega) ?_ | refine Nd.mk ⟨rfl, by decide +kernel, by decide +kernel⟩ ?_ | refine LdN.one _ rfl (fun w hw => hw.1) rfl ?_); (conv => whnf))))
  refine EffW.appTo (i := 3) (q := 0) (tab0 t) 257 rfl rfl rfl rfl rfl rfl rfl (Nat.le_of_ble_eq_true rfl) rfl rfl ?_
  ((conv => whnf); (repeat ((first | refine VrN.norm (wrap_i64 (by omega)) ?_ | refine VrN.keep ?_ | refine Nd.mk (by decide +kernel) ?_ | refine Nd.mk (by omega) ?_ | refine Nd.mk ⟨rfl, by decide +kernel, by decide +kernel⟩ ?_ | refine LdN.one _ rfl (fun w hw => hw.1) rfl ?_); (conv => whnf))))
  refine LoopN.unroll 3 ?_
  ((conv => whnf); (repeat ((first | refine VrN.norm (wrap_i64 (by omega)) ?_ | refine VrN.keep ?_ | refine Nd.mk (by decide +kernel) ?_ | refine Nd.mk (by omega) ?_ | refine Nd.mk ⟨rfl, by decide +kernel, by decide +kernel⟩ ?_ | refine LdN.one _ rfl (fun w hw => hw.1) rfl ?_); (conv => whnf))))
  refine LdN.fld (a := some ⟨tb, 0, none⟩) (q := 0) _ rfl (fun w hw => hw.2.2.2.1) rfl ?_
  ((conv => whnf); (repeat ((first | refine VrN.norm (wrap_i64 (by omega)) ?_ | refine VrN.keep ?_ | refine Nd.mk (by decide +kernel) ?_ | refine Nd.mk (by omega) ?_ | refine Nd.mk ⟨rfl, by decide +kernel, by decide +kernel⟩ ?_ | refine LdN.one _ rfl (fun w hw => hw.1) rfl ?_); (conv => whnf))))
  refine LdN.fld (a := some ⟨tb, 0, none⟩) (q := 0) _ rfl (fun w hw => hw.2.2.2.1) rfl ?_
  ((conv => whnf); (repeat ((first | refine VrN.norm (wrap_i64 (by omega)) ?_ | refine VrN.keep ?_ | refine Nd.mk (by decide +kernel) ?_ | refine Nd.mk (by omega) ?_ | refine Nd.mk ⟨rfl, by decide +kernel, by decide +kernel⟩ ?_ | refine LdN.one _ rfl (fun w hw => hw.1) rfl ?_); (conv => whnf))))
  refine RwN.own ?_
  ((conv => whnf); (repeat ((first | refine VrN.norm (wrap_i64 (by omega)) ?_ | refine VrN.keep ?_ | refine Nd.mk (by decide +kernel) ?_ | refine Nd.mk (by omega) ?_ | refine Nd.mk ⟨rfl, by decide +kernel, by decide +kernel⟩ ?_ | refine LdN.one _ rfl (fun w hw => hw.1) rfl ?_); (conv => whnf))))
  refine ReadW.bytesOwn [34] rfl rfl Tryz.underlying40 Tryz.underlying5 Tryz.underlying9 rfl rfl ?_
  ((conv => whnf); (repeat ((first | refine VrN.norm (wrap_i64 (by omega)) ?_ | refine VrN.keep ?_ | refine Nd.mk (by decide +kernel) ?_ | refine Nd.mk (by omega) ?_ | refine Nd.mk ⟨rfl, by decide +kernel, by decide +kernel⟩ ?_ | refine LdN.one _ rfl (fun w hw => hw.1) rfl ?_); (conv => whnf))))
  refine RwN.own ?_
  ((conv => whnf); (repeat ((first | refine VrN.norm (wrap_i64 (by omega)) ?_ | refine VrN.keep ?_ | refine Nd.mk (by decide +kernel) ?_ | refine Nd.mk (by omega) ?_ | refine Nd.mk ⟨rfl, by decide +kernel, by decide +kernel⟩ ?_ | refine LdN.one _ rfl (fun w hw => hw.1) rfl ?_); (conv => whnf))))
  refine AppN.grow 2 _ _ rfl rfl ⟨by decide, ⟨Nat.le_of_ble_eq_true rfl, by omega⟩, Nat.one_ne_zero⟩ fun t1 k1 h1 h1' => ?_
  ((conv => whnf); (repeat ((first | refine VrN.norm (wrap_i64 (by omega)) ?_ | refine VrN.keep ?_ | refine Nd.mk (by decide +kernel) ?_ | refine Nd.mk (by omega) ?_ | refine Nd.mk ⟨rfl, by decide +kernel, by decide +kernel⟩ ?_ | refine LdN.one _ rfl (fun w hw => hw.1) rfl ?_); (conv => whnf))))
  refine EffW.appTo (i := 3) (q := 256) (ys := [_]) _ 257 rfl rfl rfl rfl rfl rfl rfl (Nat.le_of_ble_eq_true rfl) (put_set _ (by simp [tab0])) rfl ?_
  ((conv => whnf); (repeat ((first | refine VrN.norm (wrap_i64 (by omega)) ?_ | refine VrN.keep ?_ | refine Nd.mk (by decide +kernel) ?_ | refine Nd.mk (by omega) ?_ | refine Nd.mk ⟨rfl, by decide +kernel, by decide +kernel⟩ ?_ | refine LdN.one _ rfl (fun w hw => hw.1) rfl ?_); (conv => whnf))))
  refine EffW.bytesOf _ rfl Tryz.underlying9 Tryz.underlying40 Tryz.underlying5 rfl (by decide) fun n1 c1 g1 g1' => ?_
  ((conv => whnf); (repeat ((first | refine VrN.norm (wrap_i64 (by omega)) ?_ | refine VrN.keep ?_ | refine Nd.mk (by decide +kernel) ?_ | refine Nd.mk (by omega) ?_ | refine Nd.mk ⟨rfl, by decide +kernel, by decide +kernel⟩ ?_ | refine LdN.one _ rfl (fun w hw => hw.1) rfl ?_); (conv => whnf))))
  refine EffW.appTo (i := 3) (q := 34) (ys := [_]) _ 257 rfl rfl rfl rfl rfl rfl rfl (Nat.le_of_ble_eq_true rfl) (put_set _ (by simp [tab0])) rfl ?_
  ((conv => whnf); (repeat ((first | refine VrN.norm (wrap_i64 (by omega)) ?_ | refine VrN.keep ?_ | refine Nd.mk (by decide +kernel) ?_ | refine Nd.mk (by omega) ?_ | refine Nd.mk ⟨rfl, by decide +kernel, by decide +kernel⟩ ?_ | refine LdN.one _ rfl (fun w hw => hw.1) rfl ?_); (conv => whnf))))
  refine LdN.fld (a := some ⟨tb, 0, none⟩) (q := 0) _ rfl (fun w hw => hw.2.2.2.1) rfl ?_
  ((conv => whnf); (repeat ((first | refine VrN.norm (wrap_i64 (by omega)) ?_ | refine VrN.keep ?_ | refine Nd.mk (by decide +kernel) ?_ | refine Nd.mk (by omega) ?_ | refine Nd.mk ⟨rfl, by decide +kernel, by decide +kernel⟩ ?_ | refine LdN.one _ rfl (fun w hw => hw.1) rfl ?_); (conv => whnf))))
  refine LdN.fld (a := some ⟨tb, 0, none⟩) (q := 0) _ rfl (fun w hw => hw.2.2.2.1) rfl ?_
  ((conv => whnf); (repeat ((first | refine VrN.norm (wrap_i64 (by omega)) ?_ | refine VrN.keep ?_ | refine Nd.mk (by decide +kernel) ?_ | refine Nd.mk (by omega) ?_ | refine Nd.mk ⟨rfl, by decide +kernel, by decide +kernel⟩ ?_ | refine LdN.one _ rfl (fun w hw => hw.1) rfl ?_); (conv => whnf))))
  refine RwN.own ?_
  ((conv => whnf); (repeat ((first | refine VrN.norm (wrap_i64 (by omega)) ?_ | refine VrN.keep ?_ | refine Nd.mk (by decide +kernel) ?_ | refine Nd.mk (by omega) ?_ | refine Nd.mk ⟨rfl, by decide +kernel, by decide +kernel⟩ ?_ | refine LdN.one _ rfl (fun w hw => hw.1) rfl ?_); (conv => whnf))))
  refine ReadW.bytesOwn [92] rfl rfl Tryz.underlying40 Tryz.underlying5 Tryz.underlying9 rfl rfl ?_
  ((conv => whnf); (repeat ((first | refine VrN.norm (wrap_i64 (by omega)) ?_ | refine VrN.keep ?_ | refine Nd.mk (by decide +kernel) ?_ | refine Nd.mk (by omega) ?_ | refine Nd.mk ⟨rfl, by decide +kernel, by decide +kernel⟩ ?_ | refine LdN.one _ rfl (fun w hw => hw.1) rfl ?_); (conv => whnf))))
  refine RwN.own ?_
  ((conv => whnf); (repeat ((first | refine VrN.norm (wrap_i64 (by omega)) ?_ | refine VrN.keep ?_ | refine Nd.mk (by decide +kernel) ?_ | refine Nd.mk (by omega) ?_ | refine Nd.mk ⟨rfl, by decide +kernel, by decide +kernel⟩ ?_ | refine LdN.one _ rfl (fun w hw => hw.1) rfl ?_); (conv => whnf))))
  refine AppN.grow 2 _ _ rfl rfl ⟨by decide, ⟨Nat.le_of_ble_eq_true rfl, by omega⟩, Nat.one_ne_zero⟩ fun t2 k2 h2 h2' => ?_
  ((conv => whnf); (repeat ((first | refine VrN.norm (wrap_i64 (by omega)) ?_ | refine VrN.keep ?_ | refine Nd.mk (by decide +kernel) ?_ | refine Nd.mk (by omega) ?_ | refine Nd.mk ⟨rfl, by decide +kernel, by decide +kernel⟩ ?_ | refine LdN.one _ rfl (fun w hw => hw.1) rfl ?_); (conv => whnf))))
  refine EffW.appTo (i := 3) (q := 256) (ys := [_]) _ 257 rfl rfl rfl rfl rfl rfl rfl (Nat.le_of_ble_eq_true rfl) (put_set _ (by simp [tab0])) rfl ?_
  ((conv => whnf); (repeat ((first | refine VrN.norm (wrap_i64 (by omega)) ?_ | refine VrN.keep ?_ | refine Nd.mk (by decide +kernel) ?_ | refine Nd.mk (by omega) ?_ | refine Nd.mk ⟨rfl, by decide +kernel, by decide +kernel⟩ ?_ | refine LdN.one _ rfl (fun w hw => hw.1) rfl ?_); (conv => whnf))))
  refine EffW.bytesOf _ rfl Tryz.underlying9 Tryz.underlying40 Tryz.underlying5 rfl (by decide) fun n2 c2 g2 g2' => ?_
  ((conv => whnf); (repeat ((first | refine VrN.norm (wrap_i64 (by omega)) ?_ | refine VrN.keep ?_ | refine Nd.mk (by decide +kernel) ?_ | refine Nd.mk (by omega) ?_ | refine Nd.mk ⟨rfl, by decide +kernel, by decide +kernel⟩ ?_ | refine LdN.one _ rfl (fun w hw => hw.1) rfl ?_); (conv => whnf))))
  refine EffW.appTo (i := 3) (q := 92) (ys := [_]) _ 257 rfl rfl rfl rfl rfl rfl rfl (Nat.le_of_ble_eq_true rfl) (put_set _ (by simp [tab0])) rfl ?_
  ((conv => whnf); (repeat ((first | refine VrN.norm (wrap_i64 (by omega)) ?_ | refine VrN.keep ?_ | refine Nd.mk (by decide +kernel) ?_ | refine Nd.mk (by omega) ?_ | refine Nd.mk ⟨rfl, by decide +kernel, by decide +kernel⟩ ?_ | refine LdN.one _ rfl (fun w hw => hw.1) rfl ?_); (conv => whnf))))
  refine EffW.appTo (i := 1) (q := 3) (ys := [.iface 108 (.pointer (some ⟨tb, 0, none⟩))]) (replC 0 1 (.iface 108 (.pointer (some ⟨tb, 0, none⟩))) (some ⟨c, 0, none⟩) 4 k) 5 rfl rfl rfl rfl rfl rfl rfl (Nat.le_of_ble_eq_true rfl) rfl rfl ?_
  (first | refine wX ?_ | exact wZ)
  refine EffW.appTo (i := 1) (q := 4) (ys := [.slice none 0 0]) (replC 0 1 (.iface 108 (.pointer (some ⟨tb, 0, none⟩))) none 0 0) 5 rfl rfl rfl rfl rfl rfl rfl (Nat.le_of_ble_eq_true rfl) rfl rfl ?_
  (first | refine wX ?_ | exact wZ)
  refine ⟨rfl, 5, _, rfl, ⟨_, rfl⟩, rfl, ?_⟩
  (first | refine wX ?_ | exact wZ)
  have hD := rounds_ok qt [(34, t1, k1, n1, c1)] (92, t2, k2, n2, c2) (show qpL.Nodup by decide) t tb (qt_other · ·) qt_sz (Nat.le_of_ble_eq_true rfl)
  refine LdN.one (a := some ⟨b, 0, none⟩) (q := 3) (.iface 108 (.pointer (some ⟨tb, 0, none⟩))) rfl (fun w hw => hw.2.1) rfl ?_
  (first | refine wX ?_ | exact wZ)
  refine InvN.intro 135 (.pointer (some ⟨tb, 0, none⟩)) (fun _ => by kernel_rfl) ?_
  have hF : ∀ w : World, SlAt (some ⟨tb, 0, none⟩) (1 * 257) (tabL (tab0 t) (rdL qt 0 [(34, t1, k1, n1, c1), (92, t2, k2, n2, c2)])) w → SlAt (some ⟨t2, 0, none⟩) (2 * 1) (qpL.map fun c => .string (bs [c])) w →
      SlAt (some ⟨n1, 0, none⟩) ((qt 34).length * 1) (u8s (qt 34)) w → SlAt (some ⟨n2, 0, none⟩) ((qt 92).length * 1) (u8s (qt 92)) w →
      TblF qt qpL ⟨tb, tabL (tab0 t) (rdL qt 0 ([(34, t1, k1, n1, c1)] ++ [(92, t2, k2, n2, c2)])), some ⟨t2, 0, none⟩, k2⟩ w := by
    intro w f1 f2 f3 f4
    rw [Nat.mul_one] at f3 f4
    refine ⟨f1, f2, rounds_fact qt [(34, t1, k1, n1, c1), (92, t2, k2, n2, c2)] (show qpL.Nodup by decide) t fun o t' k' n' cap' h => ?_⟩
    simp only [List.mem_cons, Prod.mk.injEq, List.not_mem_nil, or_false] at h
    rcases h with ⟨rfl, _, _, rfl, _⟩ | ⟨rfl, _, _, rfl, _⟩
    · exact f3
    · exact f4
  refine call1 (bsr_c qt qpL _ hD s hs _ fun w hw => hF w hw.2.2.2.1 hw.2.2.1 hw.2.2.2.2.1 hw.2.2.2.2.2.1) ?_
  (first | refine wX ?_ | exact wZ)
  refine ⟨_, hD, rfl, Nat.le_of_ble_eq_true rfl, fun e he => ?_⟩
  rcases List.mem_cons.1 he with rfl | he
  · exact .inl rfl
  · obtain rfl := List.mem_singleton.1 he
    exact .inr ⟨_, rfl, fun w hw => ⟨hw.2.1, hF w hw.2.2.2.1 hw.2.2.1 hw.2.2.2.2.1 hw.2.2.2.2.2.1⟩⟩
end Go.Proofs.YteljlkkppaobeaaGreatDoor

/-
  Contracts: Join, Quote (program).
-/
namespace Go.Proofs.YteljlkkppaobeaaGreatDoor
open Go.AX Go.RowKit Go.Opts
set_option maxRecDepth 20000

theorem Join_c (ob : Option Nat) (cap : Nat) (l : List (List UInt8)) (hob : ob = none → l = []) (hl : l.length ≤ 1000000) (hcap : l.length ≤ cap) (hj : (Lib.join l [32]).length ≤ 140737488355328) : ∀ H, (∀ w, Facts H w → SlAt (at0 ob) (l.length * 1) (strC l) w) → SpecH Tryz.prog 15 (pvs [.slice (at0 ob) l.length cap, .string (bs [32])]) H (Ret (.string (bs (Lib.join l [32]))) H) := fun H hF =>
  SpecH.rawP (R := fun r => r = .string (bs (Lib.join l [32]))) (callOk Tryz.func15 (by kernel_rfl) rfl)
    (fun w hw => by
      have hS := hF w hw
      cases l with
      | nil => exact (Tryz.strings_Join_none (at0 ob) cap (bs [32]) w).mono fun e w' ⟨he, hw⟩ => ⟨_, he, rfl, by subst hw; exact Below.refl _ _⟩
      | cons x r =>
        obtain ⟨b, rfl⟩ : ∃ b, ob = some b := by
          cases ob with
          | none => cases hob rfl
          | some b => exact ⟨b, rfl⟩
        have hcells : ∀ (j : Nat) y, ((x :: r).map bs)[j]? = some y → w.cell? ⟨b, 0 + j, none⟩ = some (.string y) := fun j y hy => by
          have hjl := (List.getElem?_eq_some_iff.1 hy).1
          rw [List.length_map] at hjl
          have h1 := hS.2.2 j (by omega)
          rw [List.getElem?_map] at hy
          obtain ⟨z, hz, rfl⟩ := Option.map_eq_some_iff.1 hy
          rw [strC_get hz] at h1
          have h2 : w.cell? ((⟨b, 0, none⟩ : Addr).add j) = some (.string (bs z)) := h1
          rw [add_lit0] at h2
          rw [Nat.zero_add]
          exact h2
        have hbk : b < w.heap.size := cell?_lt (hcells 0 (bs x) rfl)
        have hmap : ((x :: r).map bs).map (fun y => y.data.toList) = x :: r := by
          rw [List.map_map]
          conv => rhs; rw [← List.map_id (x :: r)]
          apply List.map_congr_left
          intro y _
          exact bs_list y
        have := Tryz.strings_Join b 0 cap ((x :: r).map bs) (bs [32]) w hcells hbk (by rw [List.length_map]; omega) (by rw [List.length_map]; exact hcap) (by rw [hmap, bs_list]; exact hj)
        rw [List.length_map] at this
        exact this.mono fun e w' ⟨he, hb⟩ => ⟨_, he, by rw [hmap, bs_list]; rfl, hb⟩) fun r hr => by subst hr; exact ⟨rfl, rfl⟩
theorem join_quote : ∀ l : List (List UInt8), Lib.join (l.map qte) [32] = quoteS l
  | [] => rfl
  | [w] => by rw [List.map_cons, List.map_nil, Lib.join_one, quoteS]
  | w :: v :: l => by
    have ih := join_quote (v :: l)
    rw [List.map_cons, Lib.join_cons] at ih
    rw [List.map_cons, Lib.join_cons, List.map_cons, quoteS, ← ih]
    · simp [Lib.joinTail]
    · intro h; cases h
theorem qte_len (w : List UInt8) : (qte w).length ≤ 2 * w.length + 2 := by
  have := flat_le qt_2 w
  unfold qte
  rw [esc_qt, List.length_cons, List.length_append, List.length_singleton]
  omega
theorem quote_len : ∀ l : List (List UInt8), (quoteS l).length ≤ 2 * (l.map List.length).sum + 3 * l.length
  | [] => by simp [quoteS]
  | [w] => by
    have := qte_len w
    simp [quoteS]
    omega
  | w :: v :: l => by
    have ih := quote_len (v :: l)
    have := qte_len w
    rw [quoteS, List.length_append, List.length_cons, List.map_cons, List.sum_cons, List.length_cons]
    · omega
    · intro h; cases h
set_option maxHeartbeats 1000000 in
theorem Quote_c (a : Option Addr) (c : Nat) (l : List (List UInt8)) (ha : a = none → l = []) (hl : l.length ≤ 100000) (hw1 : ∀ w ∈ l, w.length ≤ 100000) (hj : (quoteS l).length ≤ 1000000) : ∀ H, (∀ w, Facts H w → SlAt a (l.length * 1) (strC l) w) → SpecH Tryz.prog 8 (pvs [.slice a l.length c]) H (Ret (.string (bs (quoteS l))) H) := by
  refine factC hm Tryz.func8 (by kernel_rfl) rfl rfl ?_
  (first | refine wX ?_ | exact wZ)
  refine LoopN.intro (Nat × Option Nat × Nat) (fun ⟨i, ob, oc⟩ => i ≤ l.length ∧ (ob = none → i = 0) ∧ i ≤ oc) (fun ⟨i, ob, oc⟩ => mkS Tryz.f8.ntmps 0 [(0, .c (.v (.slice a l.length c))), (3, .c (.v (.slice (at0 ob) i oc))), (6, .c (.v (.slice a l.length c))), (7, .c (.v (.int .i64 (l.length : Int)))), (8, .c (.v (.int .i64 (i : Int))))])
    (fun ⟨i, ob, oc⟩ => [.fact (SlAt a (l.length * 1) (strC l)), .app 9 1 (strC ((l.take i).map qte)) (at0 ob) i oc]) (fun ⟨i, _, _⟩ => l.length - i) [.app 0 0 [] none 0 0] rfl (fun _ => rfl) (fun _ => rfl) (fun _ _ => okHB_eq rfl)
    ⟨⟨0, none, 0⟩, ⟨Nat.zero_le _, fun _ => rfl, Nat.le_refl _⟩, ?_, ⟨wkE_refl _, wkE_nil, wkH_nil _⟩⟩ ?_
  · (repeat' (first | exact trivial | refine And.intro (by with_reducible rfl) ?_ | (with_reducible exact wkC_refl _) | (with_reducible exact wkCs_refl _) | refine And.intro ?_ ?_))
    all_goals rfl
  rintro ⟨i, ob, oc⟩ ⟨hi, hob, hoc⟩
  (first | refine wX ?_ | exact wZ)
  refine brd_dec (fun h1 => ?_) (fun h1 => ?_)
  · obtain ⟨w0, hw0⟩ : ∃ w, l[i]? = some w := ⟨_, List.getElem?_eq_getElem (by omega)⟩
    have hwl := hw1 w0 (List.mem_of_getElem? hw0)
    have hle := flat_le qt_2 w0
    have hsa : a.isSome = true := by
      cases a with
      | none => rw [ha rfl] at hw0; cases hw0
      | some b => rfl
    (first | refine wX ?_ | exact wZ)
    refine Nd.mk ⟨hsa, by omega, by omega⟩ ?_
    (first | refine wX ?_ | exact wZ)
    refine LdN.one (.string (bs w0)) rfl (fun w hw => hw.1) (by rw [Int.toNat_natCast]; show (strC l)[i * 1]? = _; rw [Nat.mul_one]; exact strC_get hw0) ?_
    (first | refine wX ?_ | exact wZ)
    refine SpecH.freeze (callOk Tryz.func13 (by kernel_rfl) rfl) 2 rfl rfl fun b0 bc _ => ?_
    refine SpecH.plain rfl ?_
    refine callG (NewReplacer_c b0 (olnw qt qpL.reverse) bc (by decide) (by decide) (by decide) (by decide)) [2] rfl ⟨rfl, trivial⟩ rfl fun ⟨b, cc, k⟩ _ => ?_
    (first | refine wX ?_ | exact wZ)
    refine callG (first_qt w0 b cc k (by omega)) [3, 4] rfl ⟨rfl, rfl, trivial⟩ rfl fun d hd => ?_
    (first | refine wX ?_ | exact wZ)
    refine Nd.mk (by rw [bs_size]; show 1 + _ < _; omega) ?_
    rw [show (⟨#[34]⟩ : ByteArray) = bs [34] from rfl, bs_app]
    (first | refine wX ?_ | exact wZ)
    refine Nd.mk (by rw [bs_size, bs_size]; show _ + 1 < _; rw [List.length_append]; show 1 + _ + 1 < _; omega) ?_
    rw [bs_app]
    (first | refine wX ?_ | exact wZ)
    try refine Nd.mk ⟨Nat.le_refl 1, rfl, rfl⟩ ?_
    (conv => whnf)
    refine AppN.grow 1 (strC ((l.take i).map qte)) [.string (bs (qte w0))] rfl rfl ⟨Nat.le_refl 1, ⟨by show (i + 1) * 16 ≤ _; omega, by show i + 1 < _; omega⟩, Nat.one_ne_zero⟩ fun b1 c1 h11 h12 => ?_
    (first | refine wX ?_ | exact wZ)
    refine ⟨⟨i + 1, some b1, c1⟩, ⟨by omega, (fun h => by cases h), h11⟩, by show l.length - (i + 1) < l.length - i; omega, ?_, ⟨wkE_refl _, .inl ⟨rfl, rfl, by rw [strC_snoc, List.take_add_one, hw0, List.map_append]; rfl, rfl, rfl, rfl⟩, wkH_nil _⟩⟩
    (repeat' (first | exact trivial | refine And.intro (by with_reducible rfl) ?_ | (with_reducible exact wkC_refl _) | (with_reducible exact wkCs_refl _) | refine And.intro ?_ ?_))
    all_goals first | rfl | exact av_int (by rw [wrap_i64 (by omega)]; omega)
  · have hin : i = l.length := by omega
    subst hin
    rw [List.take_length]
    (first | refine wX ?_ | exact wZ)
    rw [show (⟨#[32]⟩ : ByteArray) = bs [32] from rfl]
    refine SpecH.args (args' := pvs [.slice (at0 ob) (l.map qte).length oc, .string (bs [32])]) (by rw [List.length_map]; rfl) ?_
    refine call1 (Join_c ob oc (l.map qte) (fun h => by rw [List.eq_nil_of_length_eq_zero (hob h)]; rfl) (by rw [List.length_map]; omega) (by rw [List.length_map]; exact hoc) (by rw [join_quote]; omega) _ (fun w hw => by rw [List.length_map]; exact hw.2.1)) ?_
    rw [join_quote]
    (first | refine wX ?_ | exact wZ)
end Go.Proofs.YteljlkkppaobeaaGreatDoor

/-
  Contract: OptsWords (law).
-/
namespace Go.Proofs.YteljlkkppaobeaaGreatDoor
open Go.AX Go.RowKit Go.Opts
set_option maxRecDepth 20000

theorem words_len : ∀ (n : Nat) (s w : List UInt8) (b : Bool) (out l : List (List UInt8)), s.length < n → words s w b out = some l → l.length ≤ out.length + s.length + 1
  | 0, _, _, _, _, _, h, _ => by omega
  | n + 1, [], w, b, out, l, _, h => by
    rw [words_nil] at h
    cases h
    cases b <;> simp
  | n + 1, c :: r, w, b, out, l, hn, h => by
    rw [List.length_cons] at hn ⊢
    rw [words_cons] at h
    split at h
    · have := words_len n r _ _ _ l (by omega) h
      cases b <;> simp at this <;> omega
    split at h
    · cases hp : plc 39 r with
      | none => rw [hp] at h; cases h
      | some k =>
        rw [hp] at h
        have := words_len n _ _ _ _ l (by rw [List.length_drop]; omega) h
        rw [List.length_drop] at this
        omega
    split at h
    · cases hp : quo r [] with
      | none => rw [hp] at h; cases h
      | some x =>
        rw [hp] at h
        have hx := (quo_len (r.length + 1) r [] x (by omega) hp).1
        have := words_len n _ _ _ _ l (by omega) h
        omega
    split at h
    · cases r with
      | nil => cases h
      | cons d r =>
        rw [List.length_cons] at hn ⊢
        have := words_len n r _ _ _ l (by omega) h
        omega
    · have := words_len n r _ _ _ l (by omega) h
      omega
theorem longB_lt {l : List (List UInt8)} (h : longB l = false) : l.length < 4000 ∧ (l.map List.length).sum < 4000 ∧ ∀ w ∈ l, w.length < 4000 := by
  unfold longB sumL at h
  have h1 := of_decide_eq_false h
  refine ⟨by omega, by omega, fun w hw => ?_⟩
  have := mem_sum (List.mem_map_of_mem (f := List.length) hw)
  omega
set_option maxHeartbeats 2000000 in
theorem OptsWords_c (s : List UInt8) (hs : s.length ≤ 200000000000000) (a : Option Addr) (c : Nat) (l : List (List UInt8)) (ha : a = none → l = []) (hl : l.length ≤ 200000000000000) (hw1 : ∀ w ∈ l, w.length ≤ 200000000000000) : ∀ H, (∀ w, Facts H w → SlAt a (l.length * 1) (strC l) w ∧ MaxF w) → SpecH Tryz.prog 3 (pvs [.string (bs s), .slice a l.length c]) H (Ret (.bool true) H) := by
  refine factC hm Tryz.func3 (by kernel_rfl) rfl rfl ?_
  have hz := bs_size s
  (first | refine wX ?_ | exact wZ)
  rw [hz]
  refine brd_dec (fun h1 => ?_) (fun h1 => ?_)
  · (first | refine wX ?_ | exact wZ)
    refine call1 (sane_c _ (fun w hw => hw.1.2)) ?_
    (first | refine wX ?_ | exact wZ)
  (first | refine wX ?_ | exact wZ)
  refine call1 (longw_c a c l ha hl hw1 _ (fun w hw => hw.1.1)) ?_
  cases hlb : longB l with
  | true =>
    (first | refine wX ?_ | exact wZ)
    refine call1 (sane_c _ (fun w hw => hw.1.2)) ?_
    (first | refine wX ?_ | exact wZ)
  | false =>
    obtain ⟨hl1, hl2, hl3⟩ := longB_lt hlb
    have hql := quote_len l
    (first | refine wX ?_ | exact wZ)
    refine SpecF.call (Words_c s (by omega)) (fun w _ => trivial) fun v1 G1 hR1 => ?_
    have hwl := words_len (s.length + 1) s [] false []
    cases hq : words s [] false [] with
    | none =>
      rw [hq] at hR1
      obtain rfl := hR1
      (first | refine wX ?_ | exact wZ)
      refine SpecF.call (RWords_c s (by omega)) (fun w _ => trivial) fun v2 G2 hR2 => ?_
      rw [words_ref (s.length + 1) _ _ _ _ (by omega), hq] at hR2
      obtain rfl := hR2
      (first | refine wX ?_ | exact wZ)
      -- what is quoted and cut; $1: the entry of the second cut's fact
      refine call1 (Quote_c a c l ha (by omega) (fun w hw => by have := hl3 w hw; omega) (by omega) _ (fun w hw => hw.1.1)) ?_
      (first | refine wX ?_ | exact wZ)
      refine SpecF.call (Words_c (quoteS l) (by omega)) (fun w _ => trivial) fun v3 G3 hR3 => ?_
      rw [words_quote] at hR3
      obtain ⟨ob3, cap3, rfl, hob3, hG3⟩ := hR3
      rw [List.nil_append] at hob3 hG3 ⊢
      (first | refine wX ?_ | exact wZ)
      refine call1 (Quote_c a c l ha (by omega) (fun w hw => by have := hl3 w hw; omega) (by omega) _ (fun w hw => hw.1.1)) ?_
      (first | refine wX ?_ | exact wZ)
      refine SpecF.call (RWords_c (quoteS l) (by omega)) (fun w _ => trivial) fun v4 G4 hR4 => ?_
      rw [words_ref ((quoteS l).length + 1) _ _ _ _ (by omega), words_quote] at hR4
      obtain ⟨ob4, cap4, rfl, hob4, hG4⟩ := hR4
      rw [List.nil_append] at hob4 hG4 ⊢
      (first | refine wX ?_ | exact wZ)
      refine call1 (texts_c none none [] [] 0 0 (fun _ => rfl) (fun _ => rfl) (by decide) (by decide) _ (fun w hw => ⟨SlAt.nil, SlAt.nil⟩)) ?_
      rw [decide_eq_true rfl]
      (first | refine wX ?_ | exact wZ)
      refine call1 (texts_c (at0 ob3) a l l cap3 c (fun h => hob3 (by cases ob3 with | none => rfl | some b => cases h)) ha (by omega) (by omega) _ (fun w hw => ⟨hG3 w hw.2.2.2.1, hw.1.1⟩)) ?_
      rw [decide_eq_true rfl]
      (first | refine wX ?_ | exact wZ)
      refine call1 (texts_c (at0 ob4) a l l cap4 c (fun h => hob4 (by cases ob4 with | none => rfl | some b => cases h)) ha (by omega) (by omega) _ (fun w hw => ⟨hG4 w hw.2.2.2.2.1, hw.1.1⟩)) ?_
      rw [decide_eq_true rfl]
      (first | refine wX ?_ | exact wZ)
      refine call1 (sane_c _ (fun w hw => hw.1.2)) ?_
      (first | refine wX ?_ | exact wZ)
    | some m =>
      rw [hq] at hR1
      have hml := hwl m (by omega) hq
      simp only [List.length_nil] at hml
      obtain ⟨ob1, cap1, rfl, hob1, hG1⟩ := hR1
      (first | refine wX ?_ | exact wZ)
      refine SpecF.call (RWords_c s (by omega)) (fun w _ => trivial) fun v2 G2 hR2 => ?_
      rw [words_ref (s.length + 1) _ _ _ _ (by omega), hq] at hR2
      obtain ⟨ob2, cap2, rfl, hob2, hG2⟩ := hR2
      (first | refine wX ?_ | exact wZ)
      -- what is quoted and cut; $1: the entry of the second cut's fact
      refine call1 (Quote_c a c l ha (by omega) (fun w hw => by have := hl3 w hw; omega) (by omega) _ (fun w hw => hw.1.1)) ?_
      (first | refine wX ?_ | exact wZ)
      refine SpecF.call (Words_c (quoteS l) (by omega)) (fun w _ => trivial) fun v3 G3 hR3 => ?_
      rw [words_quote] at hR3
      obtain ⟨ob3, cap3, rfl, hob3, hG3⟩ := hR3
      rw [List.nil_append] at hob3 hG3 ⊢
      (first | refine wX ?_ | exact wZ)
      refine call1 (Quote_c a c l ha (by omega) (fun w hw => by have := hl3 w hw; omega) (by omega) _ (fun w hw => hw.1.1)) ?_
      (first | refine wX ?_ | exact wZ)
      refine SpecF.call (RWords_c (quoteS l) (by omega)) (fun w _ => trivial) fun v4 G4 hR4 => ?_
      rw [words_ref ((quoteS l).length + 1) _ _ _ _ (by omega), words_quote] at hR4
      obtain ⟨ob4, cap4, rfl, hob4, hG4⟩ := hR4
      rw [List.nil_append] at hob4 hG4 ⊢
      (first | refine wX ?_ | exact wZ)
      refine call1 (texts_c (at0 ob1) (at0 ob2) m m cap1 cap2 (fun h => hob1 (by cases ob1 with | none => rfl | some b => cases h)) (fun h => hob2 (by cases ob2 with | none => rfl | some b => cases h)) (by omega) (by omega) _ (fun w hw => ⟨hG1 w hw.2.1, hG2 w hw.2.2.1⟩)) ?_
      rw [decide_eq_true rfl]
      (first | refine wX ?_ | exact wZ)
      refine call1 (texts_c (at0 ob3) a l l cap3 c (fun h => hob3 (by cases ob3 with | none => rfl | some b => cases h)) ha (by omega) (by omega) _ (fun w hw => ⟨hG3 w hw.2.2.2.1, hw.1.1⟩)) ?_
      rw [decide_eq_true rfl]
      (first | refine wX ?_ | exact wZ)
      refine call1 (texts_c (at0 ob4) a l l cap4 c (fun h => hob4 (by cases ob4 with | none => rfl | some b => cases h)) ha (by omega) (by omega) _ (fun w hw => ⟨hG4 w hw.2.2.2.2.1, hw.1.1⟩)) ?_
      rw [decide_eq_true rfl]
      (first | refine wX ?_ | exact wZ)
      refine call1 (sane_c _ (fun w hw => hw.1.2)) ?_
      (first | refine wX ?_ | exact wZ)
end Go.Proofs.YteljlkkppaobeaaGreatDoor

/-
  AX, forty-fourth text: a law's slice of strings, each of which fits in the reach.
-/
namespace Go.AX
open Go.ChangeShapes Go.WideShapes Go.ChangeAt Go.RowKit
section
variable {H : Type} {enc : TypeId × Value → H} {P : Program} {w : World}

theorem weights_in2 {P : Program} {e : TypeId} : ∀ {ds : List (DataW H)} {d : DataW H}, d ∈ ds → ∀ n ∈ d.weights P e, n ∈ DataW.weightsAll P e ds
  | x :: ds, d, h, n, hn => by
    simp only [DataW.weightsAll, List.mem_append]
    rcases List.mem_cons.1 h with rfl | h
    · exact .inl hn
    · exact .inr (weights_in2 h n hn)
variable {fn : Func} {base : Nat} {args : Array Value} {ds : List (DataW H)} {p : List MemPlace}
theorem Known0.strs2 (k : Known0 enc P fn w base args ds p) (j : Nat) {t e : TypeId} {v : Value} (hj : fn.params[j]? = some t) (hv : args[j]? = some v) (ht : P.underlying t = some (.slice e)) (he : P.underlying e = some .string) (hc : P.cellsOf e = 1) (hb : 1 ≤ P.bytesOf e) :
    ∃ (a : Option Addr) (l : List ByteArray) (cap : Nat), v = .slice a l.length cap ∧ SlOk w a l.length (l.map Value.string) ∧ l.length ≤ cap ∧ ∀ s ∈ l, s.size ≤ 200000000000000 := by
  obtain ⟨d, q, hd, h⟩ := trodAll_get k.trod j t v (by simpa using hj) (by simpa using hv)
  obtain ⟨a, l, cap, rfl, h1, h2, h3⟩ := known_strs ht he hc hb k.weights (by simpa using hj) hd (k.val j t v hj hv) h
  refine ⟨a, l, cap, rfl, h1, h2, fun s hs => ?_⟩
  obtain ⟨fuel, hf⟩ := h
  rcases open_strings ht he hc hf with ⟨g1, g2⟩ | ⟨a2, len, cap2, zs, g1, _, hl, hm, hlen, g2, g3, g4⟩
  · simp [Value.cells] at g1
    rw [g1.2.1] at hs
    cases hs
  · simp only [Prod.mk.injEq] at g2
    simp [Value.cells] at g1
    obtain ⟨rfl, e2, rfl⟩ := g1
    have hin : ((DataW.lit (.string s.data.toList) : DataW H)) ∈ Go.ChangeShapes.strs (zs.take len) := by
      refine List.mem_map.2 ⟨s, ?_, rfl⟩
      obtain ⟨i, hi⟩ := List.getElem?_of_mem hs
      have hil : i < l.length := (List.getElem?_eq_some_iff.1 hi).1
      have c1 := h1.2.2.1.2.2 i hil
      have hzl : i < zs.length := by rw [hlen]; split <;> omega
      have c2 := g3 i hzl
      simp only [List.getElem?_map, hi, Option.map_some] at c1
      rw [show ((some a2).getD default).add i = a2.add i from rfl, c2] at c1
      have : zs.getD i ByteArray.empty = s := by simpa using c1
      rw [← this]
      refine List.mem_of_getElem? (i := i) ?_
      rw [List.getElem?_take_of_lt (by omega), List.getElem?_eq_getElem hzl]
      simp [List.getD, List.getElem?_eq_getElem hzl]
    have hw := List.all_eq_true.1 k.weights s.data.toList.length (DataW.weights_mem_each (by simpa using hj) hd _ (by
      rw [g2.1]
      simp only [DataW.weights, ht, List.mem_cons, List.mem_append]
      exact .inr (.inl (weights_in2 hin _ (by simp [DataW.weights])))))
    have hr : reachBytes < 200000000000000 := by decide
    have hz : s.size = s.data.toList.length := rfl
    simp only [decide_eq_true_eq] at hw
    omega
end
end Go.AX

/-
  OptsWordsCardSaid is proved: of every string and all strings OptsWords returns true and leaves its arguments as they were; the listed tables are tied to the program's text.
-/
namespace Go.Proofs.YteljlkkppaobeaaGreatDoor
open Go.ChangeShapes Go.WideShapes Go.ChangeAt Go.RowKit Go.AX
set_option maxRecDepth 100000

theorem bytes_of (l : List ByteArray) : (l.map Value.string) = strC (l.map fun b => b.data.toList) := by
  unfold strC
  rw [List.map_map]
  exact List.map_congr_left fun b _ => by show Value.string b = Value.string (bs b.data.toList); rw [bs_of]
namespace OptsWords
theorem own : ownKnob Tryz.prog.godebug = none := own0
theorem walk {H : Type} {enc : TypeId × Value → H} (W : World) (base : Nat) (args : Array Value) (ds : List (DataW H)) (p : List MemPlace) (k : Known enc Tryz.prog Tryz.f3 W base args ds p) (_hL : laidMetH Tryz.prog laid3 W) : Walk Tryz.prog 3 args W := by
  obtain ⟨u, v, rfl⟩ := arr2 (trodAll_len k.trod).2
  obtain ⟨b, rfl, hb⟩ := k.low.string 0 rfl rfl Tryz.underlying9
  obtain ⟨a, l, cap, rfl, ⟨hl, ha, hs⟩, hn, hw⟩ := k.low.strs2 (e := 9) 1 rfl rfl (by kernel_rfl) (by kernel_rfl) (by kernel_rfl) (by decide +kernel)
  have hna : a = none → (l.map fun b => b.data.toList) = [] := fun h => by
    rcases ha with h1 | h1
    · rw [h] at h1; cases h1
    · rw [List.eq_nil_of_length_eq_zero h1]; rfl
  rw [← bs_of b]
  have hlm : (l.map fun b => b.data.toList).length = l.length := List.length_map ..
  rw [bytes_of, ← hlm] at hs
  rw [← hlm]
  exact walkH [.fact fun w => SlAt a ((l.map fun b => b.data.toList).length * 1) (strC (l.map fun b => b.data.toList)) w ∧ MaxF w] (fun _ he => ⟨_, List.mem_singleton.1 he, (by rw [Nat.mul_one]; exact hs : Imm _ W (fun w => SlAt a ((l.map fun b => b.data.toList).length * 1) (strC (l.map fun b => b.data.toList)) w)).and (max_imm (max_of k.shaped))⟩)
    (OptsWords_c b.data.toList (by simpa using hb) a cap (l.map fun b => b.data.toList) hna (by omega) (fun w hm => by obtain ⟨s, hs1, rfl⟩ := List.mem_map.1 hm; exact hw s hs1) _ fun w hw => by exact hw.1)

theorem lifted (os : Os) (started : os.Started) (H : Type) (enc : TypeId × Value → H) :
    ReturnsInHanded {} Tryz.checked os 3 .any (fun w args => (Rows.optsWordsSpec.pre enc Tryz.prog Tryz.f3 [] false w args ∧ laidMetH Tryz.prog laid3 w) ∧ sizedMet enc Tryz.prog Tryz.f3 (OpenSpec.ofChange Rows.optsWordsSpec) false w args) (Rows.optsWordsSpec.post enc Tryz.prog Tryz.f3 false true false false) := by
  refine liftS (C := Tryz.checked) own started (by kernel_rfl) Tryz.func3
    (ChangeSpec.witness_shaped (enc := enc) (C := Tryz.checked) (os := os) (X := fun w _ => laidMetH Tryz.prog laid3 w) false (World.laidAll Tryz.prog os laid3) #[.string "".toUTF8, .slice none 0 0] 8 (World.laidAll_os _ _ _) (World.shaped_of_ZipB (by kernel_rfl) (by kernel_rfl)) (by kernel_rfl) (by kernel_rfl) (by kernel_rfl) (door_met os _))
    laidOut rfl (t := _) rfl (by kernel_rfl) (by kernel_rfl) ?_ walk
  intro ds hd
  match ds, hd with
  | [d0, d1], _ => rfl

theorem over : Rows.optsWordsRow.holds Tryz.pinned (OpenSpec.ofChange Rows.optsWordsSpec) :=
  OpenClaim.holds_of_wide 3 Tryz.f3 rfl rfl rfl rfl rfl rfl rfl ⟨rfl, rfl, rfl, rfl, rfl⟩ rfl rfl rfl rfl rfl (by kernel_rfl) Tryz.func3 (by kernel_rfl)
    (of_decide_eq_true (by kernel_rfl)) (by unfold Func.isWrapper; first | (rw [if_pos (by decide +kernel)]; kernel_rfl) | (rw [if_neg (by decide +kernel)]; exact ⟨rfl, rfl⟩))
    (fun os started H enc _ => lifted os started H enc)

theorem proved : Rows.OptsWordsCardSaid :=
  Claim7.holds_tied_plain_at .later [] [.data, .pinned, .pinned] true (true, "01266aa4d491f429ddcb44718ec4641cfa3d21e8ad36f522fb55eb9825040fc9") true
    over (fun _ h => by cases h) (by kernel_rfl) (fun _ h => by cases h) optsWords_row_tie rfl ⟨rfl, rfl⟩ (by kernel_rfl) rfl
    (fun f fn hf hfn => by
      obtain rfl : f = 3 := Option.some.inj ((show Tryz.prog.funcNamed "cabochon/cabochonlaw09.OptsWords" = some 3 by kernel_rfl).symm.trans hf) |>.symm
      obtain rfl : fn = Tryz.f3 := (Option.some.inj (Tryz.func3.symm.trans hfn)).symm
      exact ⟨by kernel_rfl, fun j t ht => by
        have hm : t ∈ Tryz.f3.params.toList := by simpa using Array.mem_of_getElem? ht
        have hall : (Tryz.f3.params.toList.all fun u => !Tryz.prog.wantsStandIn u) = true := by kernel_rfl
        exact (show Tryz.prog.wantsStandIn t = false by simpa using List.all_eq_true.1 hall t hm)⟩)
    (by kernel_rfl)
#print axioms proved
end OptsWords
end Go.Proofs.YteljlkkppaobeaaGreatDoor
