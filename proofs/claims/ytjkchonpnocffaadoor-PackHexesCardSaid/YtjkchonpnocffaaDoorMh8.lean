/-
  Lemmas (D4 C25 C26 C27 C28 Ax32 Ax33).
-/
import Derived.Lib.AppendZerosOnto
import Derived.Test.YtjkchonpnocffaaDoorMh7
/-
  Contracts: hex digits (document).
-/
namespace Go.Proofs.YtjkchonpnocffaaDoor
open Go.AX Go.RowKit Go.Pack
set_option maxRecDepth 20000

theorem u8s_last (o : List UInt8) (c e : UInt8) : (u8s (o ++ [c])).take o.length ++ [.int .u8 (e.toNat : Int)] ++ (u8s (o ++ [c])).drop (o.length + 1) = u8s (o ++ [e]) := by
  have h := u8s_put (l := o ++ [c]) (k := o.length) e (by simp)
  rw [h]
  congr 1
  simp
theorem hexed_r (s : List UInt8) (count : Int) (n : Nat) (hn : count = -1 ∧ n = s.length ∨ count = n) (hs : s.length ≤ 1000000) (hn2 : n ≤ 1000000) :
    SpecF Tryd.prog 36 [.string (bs s), .int .i64 count] (fun _ => True) (WrR (hexS n s)) := by
  refine specF hm Tryd.func36 (by kernel_rfl) rfl rfl ?_
  have hzs := bs_size s
  have hS : hexS n s = match hexI (digs n s) n with | some l => .ok l | none => .error 1 := by unfold hexS; rw [hexI_end]; rfl
  ((conv => whnf); (repeat ((first | refine BoxN.own ?_ | refine RwN.own ?_ | refine VrN.norm (wrap_i64 (by omega)) ?_ | refine VrN.keep ?_ | refine DrawN.calm (by decide +kernel) ?_ | refine Nd.mk (by decide +kernel) ?_ | refine Nd.mk (by omega) ?_ | (refine Nd.mk ?_ ?_; focus ((repeat' (first | exact trivial | exact wkE_refl _ | refine And.intro ?_ ?_)); done)) | refine RdN.intro _ rfl (by rfl) ?_); (conv => whnf))))
  refine brd_eq (fun h1 => ?_) (fun h1 => ?_)
  · have hcn : count = -1 ∧ n = s.length ∨ count ≠ -1 ∧ count = n := by omega
    ((conv => whnf); (repeat ((first | refine BoxN.own ?_ | refine RwN.own ?_ | refine VrN.norm (wrap_i64 (by omega)) ?_ | refine VrN.keep ?_ | refine DrawN.calm (by decide +kernel) ?_ | refine Nd.mk (by decide +kernel) ?_ | refine Nd.mk (by omega) ?_ | (refine Nd.mk ?_ ?_; focus ((repeat' (first | exact trivial | exact wkE_refl _ | refine And.intro ?_ ?_)); done)) | refine RdN.intro _ rfl (by rfl) ?_); (conv => whnf))))
    refine LoopN.intro (Nat × List UInt8 × Option Nat × Nat) (fun ⟨i, out, ob, cap⟩ => i ≤ n ∧ hexI (digs n s) i = some out ∧ ((ob = none → out = [] ∧ cap = 0) ∧ out.length ≤ cap) ∧ out.length ≤ i)
      (fun ⟨i, out, ob, cap⟩ => mkS Tryd.f36.ntmps 0 [(0, .c (.v (.string (bs s)))), (6, .c (.v (.int .i64 (n : Int)))), (7, .c (.v (.slice (at0 ob) out.length cap))), (8, .c (.v (.int .i64 (i : Int))))])
      (fun ⟨_, out, ob, cap⟩ => [.fact fun _ => True, .app 5 1 (u8s out) (at0 ob) out.length cap]) (fun ⟨i, _, _, _⟩ => n - i) [.app 0 0 [] none 0 0] rfl
      (fun _ => rfl) (fun _ => rfl) (fun _ _ => okHB_eq rfl) ⟨(0, [], none, 0), ⟨Nat.zero_le _, rfl, ⟨fun _ => ⟨rfl, rfl⟩, Nat.le_refl _⟩, Nat.le_refl _⟩, ?_, ?_⟩ ?_
    · (repeat' (first | exact trivial | refine And.intro (by with_reducible rfl) ?_ | (with_reducible exact wkC_refl _) | (with_reducible exact wkCs_refl _) | refine And.intro ?_ ?_))
      all_goals first | rfl | exact av_int (by omega)
    · exact ⟨wkE_refl _, wkE_nil, wkH_nil _⟩
    rintro ⟨i, out, ob, cap⟩ ⟨hi, hI, hob, hol0⟩
    have hm2 : Int.tmod (i : Int) 2 = ((i % 2 : Nat) : Int) := (Int.ofNat_tmod i 2).symm
    ((conv => whnf); (repeat ((first | refine BoxN.own ?_ | refine RwN.own ?_ | refine VrN.norm (wrap_i64 (by omega)) ?_ | refine VrN.keep ?_ | refine DrawN.calm (by decide +kernel) ?_ | refine Nd.mk (by decide +kernel) ?_ | refine Nd.mk (by omega) ?_ | (refine Nd.mk ?_ ?_; focus ((repeat' (first | exact trivial | exact wkE_refl _ | refine And.intro ?_ ?_)); done)) | refine RdN.intro _ rfl (by rfl) ?_); (conv => whnf))))
    refine brd_dec (fun h2 => ?_) (fun h2 => ?_)
    · have hdg := digs_get n s i (by omega)
      by_cases his : i < s.length
      · obtain ⟨c, hcs⟩ : ∃ c, s[i]? = some c := ⟨_, List.getElem?_eq_getElem his⟩
        have hc : (digs n s)[i]? = some c := by rw [hdg, dif_pos his, ← (List.getElem?_eq_some_iff.1 hcs).2]
        have hbc : byteAt (bs s) (Int.toNat (i : Int)) = (c.toNat : Int) := by rw [Int.toNat_natCast]; exact byteAt_get hcs
        ((conv => whnf); (repeat ((first | refine BoxN.own ?_ | refine RwN.own ?_ | refine VrN.norm (wrap_i64 (by omega)) ?_ | refine VrN.keep ?_ | refine DrawN.calm (by decide +kernel) ?_ | refine Nd.mk (by decide +kernel) ?_ | refine Nd.mk (by omega) ?_ | (refine Nd.mk ?_ ?_; focus ((repeat' (first | exact trivial | exact wkE_refl _ | refine And.intro ?_ ?_)); done)) | refine RdN.intro _ rfl (by rfl) ?_); (conv => whnf))))
        rw [hzs]
        refine brd_dec (fun _ => ?_) (fun h => absurd (by omega) h)
        ((conv => whnf); (repeat ((first | refine BoxN.own ?_ | refine RwN.own ?_ | refine VrN.norm (wrap_i64 (by omega)) ?_ | refine VrN.keep ?_ | refine DrawN.calm (by decide +kernel) ?_ | refine Nd.mk (by decide +kernel) ?_ | refine Nd.mk (by omega) ?_ | (refine Nd.mk ?_ ?_; focus ((repeat' (first | exact trivial | exact wkE_refl _ | refine And.intro ?_ ?_)); done)) | refine RdN.intro _ rfl (by rfl) ?_); (conv => whnf))))
        rw [hbc]
        refine call1 (digit_r c _) ?_
        cases hv : hexV c with
        | none =>
          have hbad : hexS n s = .error 1 := by unfold hexS; rw [hexT_bad hc hv]
          rw [hbad]
          ((conv => whnf); (repeat ((first | refine BoxN.own ?_ | refine RwN.own ?_ | refine VrN.norm (wrap_i64 (by omega)) ?_ | refine VrN.keep ?_ | refine DrawN.calm (by decide +kernel) ?_ | refine Nd.mk (by decide +kernel) ?_ | refine Nd.mk (by omega) ?_ | (refine Nd.mk ?_ ?_; focus ((repeat' (first | exact trivial | exact wkE_refl _ | refine And.intro ?_ ?_)); done)) | refine RdN.intro _ rfl (by rfl) ?_); (conv => whnf))))
          exact fin_v rfl
        | some x =>
          ((conv => whnf); (repeat ((first | refine BoxN.own ?_ | refine RwN.own ?_ | refine VrN.norm (wrap_i64 (by omega)) ?_ | refine VrN.keep ?_ | refine DrawN.calm (by decide +kernel) ?_ | refine Nd.mk (by decide +kernel) ?_ | refine Nd.mk (by omega) ?_ | (refine Nd.mk ?_ ?_; focus ((repeat' (first | exact trivial | exact wkE_refl _ | refine And.intro ?_ ?_)); done)) | refine RdN.intro _ rfl (by rfl) ?_); (conv => whnf))))
          -- x: the digit's value, (x : Int): as an Int
          have h16 : x < 16 := hexV_lt hv
          refine brd_eq (fun he => ?_) (fun he => ?_)
          · have hev : i % 2 = 0 := by rw [hm2] at he; omega
            have hnx := hexI_even hev hc hv hI
            ((conv => whnf); (repeat ((first | refine BoxN.own ?_ | refine RwN.own ?_ | refine VrN.norm (wrap_i64 (by omega)) ?_ | refine VrN.keep ?_ | refine DrawN.calm (by decide +kernel) ?_ | refine Nd.mk (by decide +kernel) ?_ | refine Nd.mk (by omega) ?_ | (refine Nd.mk ?_ ?_; focus ((repeat' (first | exact trivial | exact wkE_refl _ | refine And.intro ?_ ?_)); done)) | refine RdN.intro _ rfl (by rfl) ?_); (conv => whnf))))
            try refine Nd.mk ⟨Nat.le_refl 1, rfl, rfl⟩ ?_
            (conv => whnf)
            refine AppN.grow 1 (u8s out) [_] rfl rfl ⟨Nat.le_refl 1, ⟨by show (out.length + 1) * 1 ≤ _; omega, by omega⟩, by show 1 ≠ 0; omega⟩ fun b' cap2 h2 h3 => ?_
            ((conv => whnf); (repeat ((first | refine BoxN.own ?_ | refine RwN.own ?_ | refine VrN.norm (wrap_i64 (by omega)) ?_ | refine VrN.keep ?_ | refine DrawN.calm (by decide +kernel) ?_ | refine Nd.mk (by decide +kernel) ?_ | refine Nd.mk (by omega) ?_ | (refine Nd.mk ?_ ?_; focus ((repeat' (first | exact trivial | exact wkE_refl _ | refine And.intro ?_ ?_)); done)) | refine RdN.intro _ rfl (by rfl) ?_); (conv => whnf))))
            refine ⟨(i + 1, out ++ [UInt8.ofNat (16 * x)], some b', cap2), ⟨by omega, hnx, ⟨fun h => (by cases h), by rw [List.length_append]; exact h2⟩, by rw [List.length_append]; show out.length + 1 ≤ i + 1; omega⟩, by show n - (i + 1) < n - i; omega, ?_, ?_⟩
            · (repeat' (first | exact trivial | refine And.intro (by with_reducible rfl) ?_ | (with_reducible exact wkC_refl _) | (with_reducible exact wkCs_refl _) | refine And.intro ?_ ?_))
              all_goals first | rfl | (rw [List.length_append]; rfl) | exact av_int (by first | omega | (rw [wrap_i64 (by omega)]; omega))
            · refine ⟨wkE_refl _, .inl ⟨rfl, rfl, ?_, rfl, by rw [List.length_append]; rfl, rfl⟩, wkH_nil _⟩
              have hb9 : IntKind.u8.wrap (IntKind.i64.wrap (16 * ((x : Int)))) = ((16 * x : Nat) : Int) := by rw [wrap_i64 (by omega), wrap_u8 (by omega)]; omega
              have hb8 : IntKind.u8.wrap (16 * ((x : Int))) = ((16 * x : Nat) : Int) := by rw [wrap_u8 (by omega)]; omega
              show u8s out ++ [Value.int .u8 _] = _
              first | rw [hb9] | rw [hb8]
              rw [byteV (n := 16 * x) (by omega)]
              simp [u8s]
          · have hod : i % 2 = 1 := by rw [hm2] at he; omega
            obtain ⟨o, y, hy, ho, hnx⟩ := hexI_odd hod hc hv hI
            subst ho
            obtain ⟨g, rfl⟩ : ∃ g, ob = some g := by
              cases ob with
              | none => exact absurd (hob.1 rfl).1 (by simp)
              | some g => exact ⟨g, rfl⟩
            have hol : (o ++ [UInt8.ofNat (16 * y)]).length = o.length + 1 := by rw [List.length_append]; rfl
            rw [hol]
            have hcell : (u8s (o ++ [UInt8.ofNat (16 * y)]))[o.length]? = some (.int .u8 (((UInt8.ofNat (16 * y)).toNat : Nat) : Int)) := u8s_at (by simp)
            have hw9 : IntKind.i64.wrap (((o.length + 1 : Nat) : Int) - 1) = (o.length : Int) := by rw [wrap_i64 (by omega)]; omega
            ((conv => whnf); (repeat ((first | refine BoxN.own ?_ | refine RwN.own ?_ | refine VrN.norm (wrap_i64 (by omega)) ?_ | refine VrN.keep ?_ | refine DrawN.calm (by decide +kernel) ?_ | refine Nd.mk (by decide +kernel) ?_ | refine Nd.mk (by omega) ?_ | (refine Nd.mk ?_ ?_; focus ((repeat' (first | exact trivial | exact wkE_refl _ | refine And.intro ?_ ?_)); done)) | refine RdN.intro _ rfl (by rfl) ?_); (conv => whnf))))
            rw [hw9]
            try refine Nd.mk ⟨rfl, by omega, by omega⟩ ?_
            ((conv => whnf); (repeat ((first | refine BoxN.own ?_ | refine RwN.own ?_ | refine VrN.norm (wrap_i64 (by omega)) ?_ | refine VrN.keep ?_ | refine DrawN.calm (by decide +kernel) ?_ | refine Nd.mk (by decide +kernel) ?_ | refine Nd.mk (by omega) ?_ | (refine Nd.mk ?_ ?_; focus ((repeat' (first | exact trivial | exact wkE_refl _ | refine And.intro ?_ ?_)); done)) | refine RdN.intro _ rfl (by rfl) ?_); (conv => whnf))))
            refine LdN.one (.int .u8 (((UInt8.ofNat (16 * y)).toNat : Nat) : Int)) rfl (fun w hw => hw.2.1) (by
              show (u8s (o ++ [UInt8.ofNat (16 * y)]))[Int.toNat _ * 1]? = _
              rw [Nat.mul_one, Int.toNat_natCast]
              exact hcell) ?_
            ((conv => whnf); (repeat ((first | refine BoxN.own ?_ | refine RwN.own ?_ | refine VrN.norm (wrap_i64 (by omega)) ?_ | refine VrN.keep ?_ | refine DrawN.calm (by decide +kernel) ?_ | refine Nd.mk (by decide +kernel) ?_ | refine Nd.mk (by omega) ?_ | (refine Nd.mk ?_ ?_; focus ((repeat' (first | exact trivial | exact wkE_refl _ | refine And.intro ?_ ?_)); done)) | refine RdN.intro _ rfl (by rfl) ?_); (conv => whnf))))
            try rw [hw9]
            try refine Nd.mk ⟨rfl, by omega, by omega⟩ ?_
            ((conv => whnf); (repeat ((first | refine BoxN.own ?_ | refine RwN.own ?_ | refine VrN.norm (wrap_i64 (by omega)) ?_ | refine VrN.keep ?_ | refine DrawN.calm (by decide +kernel) ?_ | refine Nd.mk (by decide +kernel) ?_ | refine Nd.mk (by omega) ?_ | (refine Nd.mk ?_ ?_; focus ((repeat' (first | exact trivial | exact wkE_refl _ | refine And.intro ?_ ?_)); done)) | refine RdN.intro _ rfl (by rfl) ?_); (conv => whnf))))
            refine EffW.appTo (i := 1) (q := o.length) (ys := [_]) (u8s (o ++ [UInt8.ofNat (16 * y + x)])) 1 rfl (ptr_lit rfl (by show Int.toNat (o.length : Int) * 1 = o.length; omega)) rfl rfl rfl rfl rfl (by show o.length + 1 ≤ (o.length + 1) * 1; omega) (by
              have h7 : IntKind.u8.wrap ((((UInt8.ofNat (16 * y)).toNat : Nat) : Int) + IntKind.u8.wrap ((x : Int))) = (((UInt8.ofNat (16 * y + x)).toNat : Nat) : Int) := by
                rw [ofNat_int (by omega), ofNat_int (by omega), wrap_u8 (x := (x : Int)) (by omega), wrap_u8 (by omega)]
                omega
              show (u8s _).take _ ++ [Value.int .u8 (IntKind.u8.wrap (_ + IntKind.u8.wrap ((x : Int))))] ++ (u8s _).drop (o.length + 1) = _
              rw [h7]
              exact u8s_last _ _ _) rfl ?_
            ((conv => whnf); (repeat ((first | refine BoxN.own ?_ | refine RwN.own ?_ | refine VrN.norm (wrap_i64 (by omega)) ?_ | refine VrN.keep ?_ | refine DrawN.calm (by decide +kernel) ?_ | refine Nd.mk (by decide +kernel) ?_ | refine Nd.mk (by omega) ?_ | (refine Nd.mk ?_ ?_; focus ((repeat' (first | exact trivial | exact wkE_refl _ | refine And.intro ?_ ?_)); done)) | refine RdN.intro _ rfl (by rfl) ?_); (conv => whnf))))
            have hol2 : (o ++ [UInt8.ofNat (16 * y + x)]).length = o.length + 1 := by rw [List.length_append]; rfl
            refine ⟨(i + 1, o ++ [UInt8.ofNat (16 * y + x)], some g, cap), ⟨by omega, hnx, ⟨fun h => (by cases h), by rw [hol2, ← hol]; exact hob.2⟩, by omega⟩, by show n - (i + 1) < n - i; omega, ?_, ?_⟩
            · (repeat' (first | exact trivial | refine And.intro (by with_reducible rfl) ?_ | (with_reducible exact wkC_refl _) | (with_reducible exact wkCs_refl _) | refine And.intro ?_ ?_))
              all_goals first | rfl | (rw [hol2]; done) | exact av_int (by first | omega | (rw [wrap_i64 (by omega)]; omega))
            · exact ⟨wkE_refl _, .inl ⟨rfl, rfl, rfl, rfl, hol2.symm, rfl⟩, wkH_nil _⟩
      · have hc : (digs n s)[i]? = some 48 := by rw [hdg, dif_neg his]
        have hv : hexV 48 = some 0 := rfl
        ((conv => whnf); (repeat ((first | refine BoxN.own ?_ | refine RwN.own ?_ | refine VrN.norm (wrap_i64 (by omega)) ?_ | refine VrN.keep ?_ | refine DrawN.calm (by decide +kernel) ?_ | refine Nd.mk (by decide +kernel) ?_ | refine Nd.mk (by omega) ?_ | (refine Nd.mk ?_ ?_; focus ((repeat' (first | exact trivial | exact wkE_refl _ | refine And.intro ?_ ?_)); done)) | refine RdN.intro _ rfl (by rfl) ?_); (conv => whnf))))
        rw [hzs]
        refine brd_dec (fun h => absurd h (by omega)) (fun _ => ?_)
        ((conv => whnf); (repeat ((first | refine BoxN.own ?_ | refine RwN.own ?_ | refine VrN.norm (wrap_i64 (by omega)) ?_ | refine VrN.keep ?_ | refine DrawN.calm (by decide +kernel) ?_ | refine Nd.mk (by decide +kernel) ?_ | refine Nd.mk (by omega) ?_ | (refine Nd.mk ?_ ?_; focus ((repeat' (first | exact trivial | exact wkE_refl _ | refine And.intro ?_ ?_)); done)) | refine RdN.intro _ rfl (by rfl) ?_); (conv => whnf))))
        -- 0: the digit's value, 0: as an Int
        have h16 : 0 < 16 := hexV_lt hv
        refine brd_eq (fun he => ?_) (fun he => ?_)
        · have hev : i % 2 = 0 := by rw [hm2] at he; omega
          have hnx := hexI_even hev hc hv hI
          ((conv => whnf); (repeat ((first | refine BoxN.own ?_ | refine RwN.own ?_ | refine VrN.norm (wrap_i64 (by omega)) ?_ | refine VrN.keep ?_ | refine DrawN.calm (by decide +kernel) ?_ | refine Nd.mk (by decide +kernel) ?_ | refine Nd.mk (by omega) ?_ | (refine Nd.mk ?_ ?_; focus ((repeat' (first | exact trivial | exact wkE_refl _ | refine And.intro ?_ ?_)); done)) | refine RdN.intro _ rfl (by rfl) ?_); (conv => whnf))))
          try refine Nd.mk ⟨Nat.le_refl 1, rfl, rfl⟩ ?_
          (conv => whnf)
          refine AppN.grow 1 (u8s out) [_] rfl rfl ⟨Nat.le_refl 1, ⟨by show (out.length + 1) * 1 ≤ _; omega, by omega⟩, by show 1 ≠ 0; omega⟩ fun b' cap2 h2 h3 => ?_
          ((conv => whnf); (repeat ((first | refine BoxN.own ?_ | refine RwN.own ?_ | refine VrN.norm (wrap_i64 (by omega)) ?_ | refine VrN.keep ?_ | refine DrawN.calm (by decide +kernel) ?_ | refine Nd.mk (by decide +kernel) ?_ | refine Nd.mk (by omega) ?_ | (refine Nd.mk ?_ ?_; focus ((repeat' (first | exact trivial | exact wkE_refl _ | refine And.intro ?_ ?_)); done)) | refine RdN.intro _ rfl (by rfl) ?_); (conv => whnf))))
          refine ⟨(i + 1, out ++ [UInt8.ofNat (16 * 0)], some b', cap2), ⟨by omega, hnx, ⟨fun h => (by cases h), by rw [List.length_append]; exact h2⟩, by rw [List.length_append]; show out.length + 1 ≤ i + 1; omega⟩, by show n - (i + 1) < n - i; omega, ?_, ?_⟩
          · (repeat' (first | exact trivial | refine And.intro (by with_reducible rfl) ?_ | (with_reducible exact wkC_refl _) | (with_reducible exact wkCs_refl _) | refine And.intro ?_ ?_))
            all_goals first | rfl | (rw [List.length_append]; rfl) | exact av_int (by first | omega | (rw [wrap_i64 (by omega)]; omega))
          · refine ⟨wkE_refl _, .inl ⟨rfl, rfl, ?_, rfl, by rw [List.length_append]; rfl, rfl⟩, wkH_nil _⟩
            have hb9 : IntKind.u8.wrap (IntKind.i64.wrap (16 * (0))) = ((16 * 0 : Nat) : Int) := by rw [wrap_i64 (by omega), wrap_u8 (by omega)]; omega
            have hb8 : IntKind.u8.wrap (16 * (0)) = ((16 * 0 : Nat) : Int) := by rw [wrap_u8 (by omega)]; omega
            show u8s out ++ [Value.int .u8 _] = _
            first | rw [hb9] | rw [hb8]
            rw [byteV (n := 16 * 0) (by omega)]
            simp [u8s]
        · have hod : i % 2 = 1 := by rw [hm2] at he; omega
          obtain ⟨o, y, hy, ho, hnx⟩ := hexI_odd hod hc hv hI
          subst ho
          obtain ⟨g, rfl⟩ : ∃ g, ob = some g := by
            cases ob with
            | none => exact absurd (hob.1 rfl).1 (by simp)
            | some g => exact ⟨g, rfl⟩
          have hol : (o ++ [UInt8.ofNat (16 * y)]).length = o.length + 1 := by rw [List.length_append]; rfl
          rw [hol]
          have hcell : (u8s (o ++ [UInt8.ofNat (16 * y)]))[o.length]? = some (.int .u8 (((UInt8.ofNat (16 * y)).toNat : Nat) : Int)) := u8s_at (by simp)
          have hw9 : IntKind.i64.wrap (((o.length + 1 : Nat) : Int) - 1) = (o.length : Int) := by rw [wrap_i64 (by omega)]; omega
          ((conv => whnf); (repeat ((first | refine BoxN.own ?_ | refine RwN.own ?_ | refine VrN.norm (wrap_i64 (by omega)) ?_ | refine VrN.keep ?_ | refine DrawN.calm (by decide +kernel) ?_ | refine Nd.mk (by decide +kernel) ?_ | refine Nd.mk (by omega) ?_ | (refine Nd.mk ?_ ?_; focus ((repeat' (first | exact trivial | exact wkE_refl _ | refine And.intro ?_ ?_)); done)) | refine RdN.intro _ rfl (by rfl) ?_); (conv => whnf))))
          rw [hw9]
          try refine Nd.mk ⟨rfl, by omega, by omega⟩ ?_
          ((conv => whnf); (repeat ((first | refine BoxN.own ?_ | refine RwN.own ?_ | refine VrN.norm (wrap_i64 (by omega)) ?_ | refine VrN.keep ?_ | refine DrawN.calm (by decide +kernel) ?_ | refine Nd.mk (by decide +kernel) ?_ | refine Nd.mk (by omega) ?_ | (refine Nd.mk ?_ ?_; focus ((repeat' (first | exact trivial | exact wkE_refl _ | refine And.intro ?_ ?_)); done)) | refine RdN.intro _ rfl (by rfl) ?_); (conv => whnf))))
          refine LdN.one (.int .u8 (((UInt8.ofNat (16 * y)).toNat : Nat) : Int)) rfl (fun w hw => hw.2.1) (by
            show (u8s (o ++ [UInt8.ofNat (16 * y)]))[Int.toNat _ * 1]? = _
            rw [Nat.mul_one, Int.toNat_natCast]
            exact hcell) ?_
          ((conv => whnf); (repeat ((first | refine BoxN.own ?_ | refine RwN.own ?_ | refine VrN.norm (wrap_i64 (by omega)) ?_ | refine VrN.keep ?_ | refine DrawN.calm (by decide +kernel) ?_ | refine Nd.mk (by decide +kernel) ?_ | refine Nd.mk (by omega) ?_ | (refine Nd.mk ?_ ?_; focus ((repeat' (first | exact trivial | exact wkE_refl _ | refine And.intro ?_ ?_)); done)) | refine RdN.intro _ rfl (by rfl) ?_); (conv => whnf))))
          try rw [hw9]
          try refine Nd.mk ⟨rfl, by omega, by omega⟩ ?_
          ((conv => whnf); (repeat ((first | refine BoxN.own ?_ | refine RwN.own ?_ | refine VrN.norm (wrap_i64 (by omega)) ?_ | refine VrN.keep ?_ | refine DrawN.calm (by decide +kernel) ?_ | refine Nd.mk (by decide +kernel) ?_ | refine Nd.mk (by omega) ?_ | (refine Nd.mk ?_ ?_; focus ((repeat' (first | exact trivial | exact wkE_refl _ | refine And.intro ?_ ?_)); done)) | refine RdN.intro _ rfl (by rfl) ?_); (conv => whnf))))
          refine EffW.appTo (i := 1) (q := o.length) (ys := [_]) (u8s (o ++ [UInt8.ofNat (16 * y + 0)])) 1 rfl (ptr_lit rfl (by show Int.toNat (o.length : Int) * 1 = o.length; omega)) rfl rfl rfl rfl rfl (by show o.length + 1 ≤ (o.length + 1) * 1; omega) (by
            have h7 : IntKind.u8.wrap ((((UInt8.ofNat (16 * y)).toNat : Nat) : Int) + IntKind.u8.wrap (0)) = (((UInt8.ofNat (16 * y + 0)).toNat : Nat) : Int) := by
              rw [ofNat_int (by omega), ofNat_int (by omega), wrap_u8 (x := 0) (by omega), wrap_u8 (by omega)]
              omega
            show (u8s _).take _ ++ [Value.int .u8 (IntKind.u8.wrap (_ + IntKind.u8.wrap (0)))] ++ (u8s _).drop (o.length + 1) = _
            rw [h7]
            exact u8s_last _ _ _) rfl ?_
          ((conv => whnf); (repeat ((first | refine BoxN.own ?_ | refine RwN.own ?_ | refine VrN.norm (wrap_i64 (by omega)) ?_ | refine VrN.keep ?_ | refine DrawN.calm (by decide +kernel) ?_ | refine Nd.mk (by decide +kernel) ?_ | refine Nd.mk (by omega) ?_ | (refine Nd.mk ?_ ?_; focus ((repeat' (first | exact trivial | exact wkE_refl _ | refine And.intro ?_ ?_)); done)) | refine RdN.intro _ rfl (by rfl) ?_); (conv => whnf))))
          have hol2 : (o ++ [UInt8.ofNat (16 * y + 0)]).length = o.length + 1 := by rw [List.length_append]; rfl
          refine ⟨(i + 1, o ++ [UInt8.ofNat (16 * y + 0)], some g, cap), ⟨by omega, hnx, ⟨fun h => (by cases h), by rw [hol2, ← hol]; exact hob.2⟩, by omega⟩, by show n - (i + 1) < n - i; omega, ?_, ?_⟩
          · (repeat' (first | exact trivial | refine And.intro (by with_reducible rfl) ?_ | (with_reducible exact wkC_refl _) | (with_reducible exact wkCs_refl _) | refine And.intro ?_ ?_))
            all_goals first | rfl | (rw [hol2]; done) | exact av_int (by first | omega | (rw [wrap_i64 (by omega)]; omega))
          · exact ⟨wkE_refl _, .inl ⟨rfl, rfl, rfl, rfl, hol2.symm, rfl⟩, wkH_nil _⟩
    · have hin : i = n := by omega
      rw [hin] at hI
      rw [hS, hI]
      ((conv => whnf); (repeat ((first | refine BoxN.own ?_ | refine RwN.own ?_ | refine VrN.norm (wrap_i64 (by omega)) ?_ | refine VrN.keep ?_ | refine DrawN.calm (by decide +kernel) ?_ | refine Nd.mk (by decide +kernel) ?_ | refine Nd.mk (by omega) ?_ | (refine Nd.mk ?_ ?_; focus ((repeat' (first | exact trivial | exact wkE_refl _ | refine And.intro ?_ ?_)); done)) | refine RdN.intro _ rfl (by rfl) ?_); (conv => whnf))))
      exact fin_p _ ⟨_, rfl, ob, cap, rfl, fun h => (hob.1 h).1, fun w hw => by simpa using hw⟩ (fun w hw => hw.2.1)
  · have hcn : count = -1 ∧ n = s.length ∨ count ≠ -1 ∧ count = n := by omega
    ((conv => whnf); (repeat ((first | refine BoxN.own ?_ | refine RwN.own ?_ | refine VrN.norm (wrap_i64 (by omega)) ?_ | refine VrN.keep ?_ | refine DrawN.calm (by decide +kernel) ?_ | refine Nd.mk (by decide +kernel) ?_ | refine Nd.mk (by omega) ?_ | (refine Nd.mk ?_ ?_; focus ((repeat' (first | exact trivial | exact wkE_refl _ | refine And.intro ?_ ?_)); done)) | refine RdN.intro _ rfl (by rfl) ?_); (conv => whnf))))
    refine LoopN.intro (Nat × List UInt8 × Option Nat × Nat) (fun ⟨i, out, ob, cap⟩ => i ≤ n ∧ hexI (digs n s) i = some out ∧ ((ob = none → out = [] ∧ cap = 0) ∧ out.length ≤ cap) ∧ out.length ≤ i)
      (fun ⟨i, out, ob, cap⟩ => mkS Tryd.f36.ntmps 0 [(0, .c (.v (.string (bs s)))), (6, .c (.v (.int .i64 (n : Int)))), (7, .c (.v (.slice (at0 ob) out.length cap))), (8, .c (.v (.int .i64 (i : Int))))])
      (fun ⟨_, out, ob, cap⟩ => [.fact fun _ => True, .app 5 1 (u8s out) (at0 ob) out.length cap]) (fun ⟨i, _, _, _⟩ => n - i) [.app 0 0 [] none 0 0] rfl
      (fun _ => rfl) (fun _ => rfl) (fun _ _ => okHB_eq rfl) ⟨(0, [], none, 0), ⟨Nat.zero_le _, rfl, ⟨fun _ => ⟨rfl, rfl⟩, Nat.le_refl _⟩, Nat.le_refl _⟩, ?_, ?_⟩ ?_
    · (repeat' (first | exact trivial | refine And.intro (by with_reducible rfl) ?_ | (with_reducible exact wkC_refl _) | (with_reducible exact wkCs_refl _) | refine And.intro ?_ ?_))
      all_goals first | rfl | exact av_int (by omega)
    · exact ⟨wkE_refl _, wkE_nil, wkH_nil _⟩
    rintro ⟨i, out, ob, cap⟩ ⟨hi, hI, hob, hol0⟩
    have hm2 : Int.tmod (i : Int) 2 = ((i % 2 : Nat) : Int) := (Int.ofNat_tmod i 2).symm
    ((conv => whnf); (repeat ((first | refine BoxN.own ?_ | refine RwN.own ?_ | refine VrN.norm (wrap_i64 (by omega)) ?_ | refine VrN.keep ?_ | refine DrawN.calm (by decide +kernel) ?_ | refine Nd.mk (by decide +kernel) ?_ | refine Nd.mk (by omega) ?_ | (refine Nd.mk ?_ ?_; focus ((repeat' (first | exact trivial | exact wkE_refl _ | refine And.intro ?_ ?_)); done)) | refine RdN.intro _ rfl (by rfl) ?_); (conv => whnf))))
    refine brd_dec (fun h2 => ?_) (fun h2 => ?_)
    · have hdg := digs_get n s i (by omega)
      by_cases his : i < s.length
      · obtain ⟨c, hcs⟩ : ∃ c, s[i]? = some c := ⟨_, List.getElem?_eq_getElem his⟩
        have hc : (digs n s)[i]? = some c := by rw [hdg, dif_pos his, ← (List.getElem?_eq_some_iff.1 hcs).2]
        have hbc : byteAt (bs s) (Int.toNat (i : Int)) = (c.toNat : Int) := by rw [Int.toNat_natCast]; exact byteAt_get hcs
        ((conv => whnf); (repeat ((first | refine BoxN.own ?_ | refine RwN.own ?_ | refine VrN.norm (wrap_i64 (by omega)) ?_ | refine VrN.keep ?_ | refine DrawN.calm (by decide +kernel) ?_ | refine Nd.mk (by decide +kernel) ?_ | refine Nd.mk (by omega) ?_ | (refine Nd.mk ?_ ?_; focus ((repeat' (first | exact trivial | exact wkE_refl _ | refine And.intro ?_ ?_)); done)) | refine RdN.intro _ rfl (by rfl) ?_); (conv => whnf))))
        rw [hzs]
        refine brd_dec (fun _ => ?_) (fun h => absurd (by omega) h)
        ((conv => whnf); (repeat ((first | refine BoxN.own ?_ | refine RwN.own ?_ | refine VrN.norm (wrap_i64 (by omega)) ?_ | refine VrN.keep ?_ | refine DrawN.calm (by decide +kernel) ?_ | refine Nd.mk (by decide +kernel) ?_ | refine Nd.mk (by omega) ?_ | (refine Nd.mk ?_ ?_; focus ((repeat' (first | exact trivial | exact wkE_refl _ | refine And.intro ?_ ?_)); done)) | refine RdN.intro _ rfl (by rfl) ?_); (conv => whnf))))
        rw [hbc]
        refine call1 (digit_r c _) ?_
        cases hv : hexV c with
        | none =>
          have hbad : hexS n s = .error 1 := by unfold hexS; rw [hexT_bad hc hv]
          rw [hbad]
          ((conv => whnf); (repeat ((first | refine BoxN.own ?_ | refine RwN.own ?_ | refine VrN.norm (wrap_i64 (by omega)) ?_ | refine VrN.keep ?_ | refine DrawN.calm (by decide +kernel) ?_ | refine Nd.mk (by decide +kernel) ?_ | refine Nd.mk (by omega) ?_ | (refine Nd.mk ?_ ?_; focus ((repeat' (first | exact trivial | exact wkE_refl _ | refine And.intro ?_ ?_)); done)) | refine RdN.intro _ rfl (by rfl) ?_); (conv => whnf))))
          exact fin_v rfl
        | some x =>
          ((conv => whnf); (repeat ((first | refine BoxN.own ?_ | refine RwN.own ?_ | refine VrN.norm (wrap_i64 (by omega)) ?_ | refine VrN.keep ?_ | refine DrawN.calm (by decide +kernel) ?_ | refine Nd.mk (by decide +kernel) ?_ | refine Nd.mk (by omega) ?_ | (refine Nd.mk ?_ ?_; focus ((repeat' (first | exact trivial | exact wkE_refl _ | refine And.intro ?_ ?_)); done)) | refine RdN.intro _ rfl (by rfl) ?_); (conv => whnf))))
          -- x: the digit's value, (x : Int): as an Int
          have h16 : x < 16 := hexV_lt hv
          refine brd_eq (fun he => ?_) (fun he => ?_)
          · have hev : i % 2 = 0 := by rw [hm2] at he; omega
            have hnx := hexI_even hev hc hv hI
            ((conv => whnf); (repeat ((first | refine BoxN.own ?_ | refine RwN.own ?_ | refine VrN.norm (wrap_i64 (by omega)) ?_ | refine VrN.keep ?_ | refine DrawN.calm (by decide +kernel) ?_ | refine Nd.mk (by decide +kernel) ?_ | refine Nd.mk (by omega) ?_ | (refine Nd.mk ?_ ?_; focus ((repeat' (first | exact trivial | exact wkE_refl _ | refine And.intro ?_ ?_)); done)) | refine RdN.intro _ rfl (by rfl) ?_); (conv => whnf))))
            try refine Nd.mk ⟨Nat.le_refl 1, rfl, rfl⟩ ?_
            (conv => whnf)
            refine AppN.grow 1 (u8s out) [_] rfl rfl ⟨Nat.le_refl 1, ⟨by show (out.length + 1) * 1 ≤ _; omega, by omega⟩, by show 1 ≠ 0; omega⟩ fun b' cap2 h2 h3 => ?_
            ((conv => whnf); (repeat ((first | refine BoxN.own ?_ | refine RwN.own ?_ | refine VrN.norm (wrap_i64 (by omega)) ?_ | refine VrN.keep ?_ | refine DrawN.calm (by decide +kernel) ?_ | refine Nd.mk (by decide +kernel) ?_ | refine Nd.mk (by omega) ?_ | (refine Nd.mk ?_ ?_; focus ((repeat' (first | exact trivial | exact wkE_refl _ | refine And.intro ?_ ?_)); done)) | refine RdN.intro _ rfl (by rfl) ?_); (conv => whnf))))
            refine ⟨(i + 1, out ++ [UInt8.ofNat (16 * x)], some b', cap2), ⟨by omega, hnx, ⟨fun h => (by cases h), by rw [List.length_append]; exact h2⟩, by rw [List.length_append]; show out.length + 1 ≤ i + 1; omega⟩, by show n - (i + 1) < n - i; omega, ?_, ?_⟩
            · (repeat' (first | exact trivial | refine And.intro (by with_reducible rfl) ?_ | (with_reducible exact wkC_refl _) | (with_reducible exact wkCs_refl _) | refine And.intro ?_ ?_))
              all_goals first | rfl | (rw [List.length_append]; rfl) | exact av_int (by first | omega | (rw [wrap_i64 (by omega)]; omega))
            · refine ⟨wkE_refl _, .inl ⟨rfl, rfl, ?_, rfl, by rw [List.length_append]; rfl, rfl⟩, wkH_nil _⟩
              have hb9 : IntKind.u8.wrap (IntKind.i64.wrap (16 * ((x : Int)))) = ((16 * x : Nat) : Int) := by rw [wrap_i64 (by omega), wrap_u8 (by omega)]; omega
              have hb8 : IntKind.u8.wrap (16 * ((x : Int))) = ((16 * x : Nat) : Int) := by rw [wrap_u8 (by omega)]; omega
              show u8s out ++ [Value.int .u8 _] = _
              first | rw [hb9] | rw [hb8]
              rw [byteV (n := 16 * x) (by omega)]
              simp [u8s]
          · have hod : i % 2 = 1 := by rw [hm2] at he; omega
            obtain ⟨o, y, hy, ho, hnx⟩ := hexI_odd hod hc hv hI
            subst ho
            obtain ⟨g, rfl⟩ : ∃ g, ob = some g := by
              cases ob with
              | none => exact absurd (hob.1 rfl).1 (by simp)
              | some g => exact ⟨g, rfl⟩
            have hol : (o ++ [UInt8.ofNat (16 * y)]).length = o.length + 1 := by rw [List.length_append]; rfl
            rw [hol]
            have hcell : (u8s (o ++ [UInt8.ofNat (16 * y)]))[o.length]? = some (.int .u8 (((UInt8.ofNat (16 * y)).toNat : Nat) : Int)) := u8s_at (by simp)
            have hw9 : IntKind.i64.wrap (((o.length + 1 : Nat) : Int) - 1) = (o.length : Int) := by rw [wrap_i64 (by omega)]; omega
            ((conv => whnf); (repeat ((first | refine BoxN.own ?_ | refine RwN.own ?_ | refine VrN.norm (wrap_i64 (by omega)) ?_ | refine VrN.keep ?_ | refine DrawN.calm (by decide +kernel) ?_ | refine Nd.mk (by decide +kernel) ?_ | refine Nd.mk (by omega) ?_ | (refine Nd.mk ?_ ?_; focus ((repeat' (first | exact trivial | exact wkE_refl _ | refine And.intro ?_ ?_)); done)) | refine RdN.intro _ rfl (by rfl) ?_); (conv => whnf))))
            rw [hw9]
            try refine Nd.mk ⟨rfl, by omega, by omega⟩ ?_
            ((conv => whnf); (repeat ((first | refine BoxN.own ?_ | refine RwN.own ?_ | refine VrN.norm (wrap_i64 (by omega)) ?_ | refine VrN.keep ?_ | refine DrawN.calm (by decide +kernel) ?_ | refine Nd.mk (by decide +kernel) ?_ | refine Nd.mk (by omega) ?_ | (refine Nd.mk ?_ ?_; focus ((repeat' (first | exact trivial | exact wkE_refl _ | refine And.intro ?_ ?_)); done)) | refine RdN.intro _ rfl (by rfl) ?_); (conv => whnf))))
            refine LdN.one (.int .u8 (((UInt8.ofNat (16 * y)).toNat : Nat) : Int)) rfl (fun w hw => hw.2.1) (by
              show (u8s (o ++ [UInt8.ofNat (16 * y)]))[Int.toNat _ * 1]? = _
              rw [Nat.mul_one, Int.toNat_natCast]
              exact hcell) ?_
            ((conv => whnf); (repeat ((first | refine BoxN.own ?_ | refine RwN.own ?_ | refine VrN.norm (wrap_i64 (by omega)) ?_ | refine VrN.keep ?_ | refine DrawN.calm (by decide +kernel) ?_ | refine Nd.mk (by decide +kernel) ?_ | refine Nd.mk (by omega) ?_ | (refine Nd.mk ?_ ?_; focus ((repeat' (first | exact trivial | exact wkE_refl _ | refine And.intro ?_ ?_)); done)) | refine RdN.intro _ rfl (by rfl) ?_); (conv => whnf))))
            try rw [hw9]
            try refine Nd.mk ⟨rfl, by omega, by omega⟩ ?_
            ((conv => whnf); (repeat ((first | refine BoxN.own ?_ | refine RwN.own ?_ | refine VrN.norm (wrap_i64 (by omega)) ?_ | refine VrN.keep ?_ | refine DrawN.calm (by decide +kernel) ?_ | refine Nd.mk (by decide +kernel) ?_ | refine Nd.mk (by omega) ?_ | (refine Nd.mk ?_ ?_; focus ((repeat' (first | exact trivial | exact wkE_refl _ | refine And.intro ?_ ?_)); done)) | refine RdN.intro _ rfl (by rfl) ?_); (conv => whnf))))
            refine EffW.appTo (i := 1) (q := o.length) (ys := [_]) (u8s (o ++ [UInt8.ofNat (16 * y + x)])) 1 rfl (ptr_lit rfl (by show Int.toNat (o.length : Int) * 1 = o.length; omega)) rfl rfl rfl rfl rfl (by show o.length + 1 ≤ (o.length + 1) * 1; omega) (by
              have h7 : IntKind.u8.wrap ((((UInt8.ofNat (16 * y)).toNat : Nat) : Int) + IntKind.u8.wrap ((x : Int))) = (((UInt8.ofNat (16 * y + x)).toNat : Nat) : Int) := by
                rw [ofNat_int (by omega), ofNat_int (by omega), wrap_u8 (x := (x : Int)) (by omega), wrap_u8 (by omega)]
                omega
              show (u8s _).take _ ++ [Value.int .u8 (IntKind.u8.wrap (_ + IntKind.u8.wrap ((x : Int))))] ++ (u8s _).drop (o.length + 1) = _
              rw [h7]
              exact u8s_last _ _ _) rfl ?_
            ((conv => whnf); (repeat ((first | refine BoxN.own ?_ | refine RwN.own ?_ | refine VrN.norm (wrap_i64 (by omega)) ?_ | refine VrN.keep ?_ | refine DrawN.calm (by decide +kernel) ?_ | refine Nd.mk (by decide +kernel) ?_ | refine Nd.mk (by omega) ?_ | (refine Nd.mk ?_ ?_; focus ((repeat' (first | exact trivial | exact wkE_refl _ | refine And.intro ?_ ?_)); done)) | refine RdN.intro _ rfl (by rfl) ?_); (conv => whnf))))
            have hol2 : (o ++ [UInt8.ofNat (16 * y + x)]).length = o.length + 1 := by rw [List.length_append]; rfl
            refine ⟨(i + 1, o ++ [UInt8.ofNat (16 * y + x)], some g, cap), ⟨by omega, hnx, ⟨fun h => (by cases h), by rw [hol2, ← hol]; exact hob.2⟩, by omega⟩, by show n - (i + 1) < n - i; omega, ?_, ?_⟩
            · (repeat' (first | exact trivial | refine And.intro (by with_reducible rfl) ?_ | (with_reducible exact wkC_refl _) | (with_reducible exact wkCs_refl _) | refine And.intro ?_ ?_))
              all_goals first | rfl | (rw [hol2]; done) | exact av_int (by first | omega | (rw [wrap_i64 (by omega)]; omega))
            · exact ⟨wkE_refl _, .inl ⟨rfl, rfl, rfl, rfl, hol2.symm, rfl⟩, wkH_nil _⟩
      · have hc : (digs n s)[i]? = some 48 := by rw [hdg, dif_neg his]
        have hv : hexV 48 = some 0 := rfl
        ((conv => whnf); (repeat ((first | refine BoxN.own ?_ | refine RwN.own ?_ | refine VrN.norm (wrap_i64 (by omega)) ?_ | refine VrN.keep ?_ | refine DrawN.calm (by decide +kernel) ?_ | refine Nd.mk (by decide +kernel) ?_ | refine Nd.mk (by omega) ?_ | (refine Nd.mk ?_ ?_; focus ((repeat' (first | exact trivial | exact wkE_refl _ | refine And.intro ?_ ?_)); done)) | refine RdN.intro _ rfl (by rfl) ?_); (conv => whnf))))
        rw [hzs]
        refine brd_dec (fun h => absurd h (by omega)) (fun _ => ?_)
        ((conv => whnf); (repeat ((first | refine BoxN.own ?_ | refine RwN.own ?_ | refine VrN.norm (wrap_i64 (by omega)) ?_ | refine VrN.keep ?_ | refine DrawN.calm (by decide +kernel) ?_ | refine Nd.mk (by decide +kernel) ?_ | refine Nd.mk (by omega) ?_ | (refine Nd.mk ?_ ?_; focus ((repeat' (first | exact trivial | exact wkE_refl _ | refine And.intro ?_ ?_)); done)) | refine RdN.intro _ rfl (by rfl) ?_); (conv => whnf))))
        -- 0: the digit's value, 0: as an Int
        have h16 : 0 < 16 := hexV_lt hv
        refine brd_eq (fun he => ?_) (fun he => ?_)
        · have hev : i % 2 = 0 := by rw [hm2] at he; omega
          have hnx := hexI_even hev hc hv hI
          ((conv => whnf); (repeat ((first | refine BoxN.own ?_ | refine RwN.own ?_ | refine VrN.norm (wrap_i64 (by omega)) ?_ | refine VrN.keep ?_ | refine DrawN.calm (by decide +kernel) ?_ | refine Nd.mk (by decide +kernel) ?_ | refine Nd.mk (by omega) ?_ | (refine Nd.mk ?_ ?_; focus ((repeat' (first | exact trivial | exact wkE_refl _ | refine And.intro ?_ ?_)); done)) | refine RdN.intro _ rfl (by rfl) ?_); (conv => whnf))))
          try refine Nd.mk ⟨Nat.le_refl 1, rfl, rfl⟩ ?_
          (conv => whnf)
          refine AppN.grow 1 (u8s out) [_] rfl rfl ⟨Nat.le_refl 1, ⟨by show (out.length + 1) * 1 ≤ _; omega, by omega⟩, by show 1 ≠ 0; omega⟩ fun b' cap2 h2 h3 => ?_
          ((conv => whnf); (repeat ((first | refine BoxN.own ?_ | refine RwN.own ?_ | refine VrN.norm (wrap_i64 (by omega)) ?_ | refine VrN.keep ?_ | refine DrawN.calm (by decide +kernel) ?_ | refine Nd.mk (by decide +kernel) ?_ | refine Nd.mk (by omega) ?_ | (refine Nd.mk ?_ ?_; focus ((repeat' (first | exact trivial | exact wkE_refl _ | refine And.intro ?_ ?_)); done)) | refine RdN.intro _ rfl (by rfl) ?_); (conv => whnf))))
          refine ⟨(i + 1, out ++ [UInt8.ofNat (16 * 0)], some b', cap2), ⟨by omega, hnx, ⟨fun h => (by cases h), by rw [List.length_append]; exact h2⟩, by rw [List.length_append]; show out.length + 1 ≤ i + 1; omega⟩, by show n - (i + 1) < n - i; omega, ?_, ?_⟩
          · (repeat' (first | exact trivial | refine And.intro (by with_reducible rfl) ?_ | (with_reducible exact wkC_refl _) | (with_reducible exact wkCs_refl _) | refine And.intro ?_ ?_))
            all_goals first | rfl | (rw [List.length_append]; rfl) | exact av_int (by first | omega | (rw [wrap_i64 (by omega)]; omega))
          · refine ⟨wkE_refl _, .inl ⟨rfl, rfl, ?_, rfl, by rw [List.length_append]; rfl, rfl⟩, wkH_nil _⟩
            have hb9 : IntKind.u8.wrap (IntKind.i64.wrap (16 * (0))) = ((16 * 0 : Nat) : Int) := by rw [wrap_i64 (by omega), wrap_u8 (by omega)]; omega
            have hb8 : IntKind.u8.wrap (16 * (0)) = ((16 * 0 : Nat) : Int) := by rw [wrap_u8 (by omega)]; omega
            show u8s out ++ [Value.int .u8 _] = _
            first | rw [hb9] | rw [hb8]
            rw [byteV (n := 16 * 0) (by omega)]
            simp [u8s]
        · have hod : i % 2 = 1 := by rw [hm2] at he; omega
          obtain ⟨o, y, hy, ho, hnx⟩ := hexI_odd hod hc hv hI
          subst ho
          obtain ⟨g, rfl⟩ : ∃ g, ob = some g := by
            cases ob with
            | none => exact absurd (hob.1 rfl).1 (by simp)
            | some g => exact ⟨g, rfl⟩
          have hol : (o ++ [UInt8.ofNat (16 * y)]).length = o.length + 1 := by rw [List.length_append]; rfl
          rw [hol]
          have hcell : (u8s (o ++ [UInt8.ofNat (16 * y)]))[o.length]? = some (.int .u8 (((UInt8.ofNat (16 * y)).toNat : Nat) : Int)) := u8s_at (by simp)
          have hw9 : IntKind.i64.wrap (((o.length + 1 : Nat) : Int) - 1) = (o.length : Int) := by rw [wrap_i64 (by omega)]; omega
          ((conv => whnf); (repeat ((first | refine BoxN.own ?_ | refine RwN.own ?_ | refine VrN.norm (wrap_i64 (by omega)) ?_ | refine VrN.keep ?_ | refine DrawN.calm (by decide +kernel) ?_ | refine Nd.mk (by decide +kernel) ?_ | refine Nd.mk (by omega) ?_ | (refine Nd.mk ?_ ?_; focus ((repeat' (first | exact trivial | exact wkE_refl _ | refine And.intro ?_ ?_)); done)) | refine RdN.intro _ rfl (by rfl) ?_); (conv => whnf))))
          rw [hw9]
          try refine Nd.mk ⟨rfl, by omega, by omega⟩ ?_
          ((conv => whnf); (repeat ((first | refine BoxN.own ?_ | refine RwN.own ?_ | refine VrN.norm (wrap_i64 (by omega)) ?_ | refine VrN.keep ?_ | refine DrawN.calm (by decide +kernel) ?_ | refine Nd.mk (by decide +kernel) ?_ | refine Nd.mk (by omega) ?_ | (refine Nd.mk ?_ ?_; focus ((repeat' (first | exact trivial | exact wkE_refl _ | refine And.intro ?_ ?_)); done)) | refine RdN.intro _ rfl (by rfl) ?_); (conv => whnf))))
          refine LdN.one (.int .u8 (((UInt8.ofNat (16 * y)).toNat : Nat) : Int)) rfl (fun w hw => hw.2.1) (by
            show (u8s (o ++ [UInt8.ofNat (16 * y)]))[Int.toNat _ * 1]? = _
            rw [Nat.mul_one, Int.toNat_natCast]
            exact hcell) ?_
          ((conv => whnf); (repeat ((first | refine BoxN.own ?_ | refine RwN.own ?_ | refine VrN.norm (wrap_i64 (by omega)) ?_ | refine VrN.keep ?_ | refine DrawN.calm (by decide +kernel) ?_ | refine Nd.mk (by decide +kernel) ?_ | refine Nd.mk (by omega) ?_ | (refine Nd.mk ?_ ?_; focus ((repeat' (first | exact trivial | exact wkE_refl _ | refine And.intro ?_ ?_)); done)) | refine RdN.intro _ rfl (by rfl) ?_); (conv => whnf))))
          try rw [hw9]
          try refine Nd.mk ⟨rfl, by omega, by omega⟩ ?_
          ((conv => whnf); (repeat ((first | refine BoxN.own ?_ | refine RwN.own ?_ | refine VrN.norm (wrap_i64 (by omega)) ?_ | refine VrN.keep ?_ | refine DrawN.calm (by decide +kernel) ?_ | refine Nd.mk (by decide +kernel) ?_ | refine Nd.mk (by omega) ?_ | (refine Nd.mk ?_ ?_; focus ((repeat' (first | exact trivial | exact wkE_refl _ | refine And.intro ?_ ?_)); done)) | refine RdN.intro _ rfl (by rfl) ?_); (conv => whnf))))
          refine EffW.appTo (i := 1) (q := o.length) (ys := [_]) (u8s (o ++ [UInt8.ofNat (16 * y + 0)])) 1 rfl (ptr_lit rfl (by show Int.toNat (o.length : Int) * 1 = o.length; omega)) rfl rfl rfl rfl rfl (by show o.length + 1 ≤ (o.length + 1) * 1; omega) (by
            have h7 : IntKind.u8.wrap ((((UInt8.ofNat (16 * y)).toNat : Nat) : Int) + IntKind.u8.wrap (0)) = (((UInt8.ofNat (16 * y + 0)).toNat : Nat) : Int) := by
              rw [ofNat_int (by omega), ofNat_int (by omega), wrap_u8 (x := 0) (by omega), wrap_u8 (by omega)]
              omega
            show (u8s _).take _ ++ [Value.int .u8 (IntKind.u8.wrap (_ + IntKind.u8.wrap (0)))] ++ (u8s _).drop (o.length + 1) = _
            rw [h7]
            exact u8s_last _ _ _) rfl ?_
          ((conv => whnf); (repeat ((first | refine BoxN.own ?_ | refine RwN.own ?_ | refine VrN.norm (wrap_i64 (by omega)) ?_ | refine VrN.keep ?_ | refine DrawN.calm (by decide +kernel) ?_ | refine Nd.mk (by decide +kernel) ?_ | refine Nd.mk (by omega) ?_ | (refine Nd.mk ?_ ?_; focus ((repeat' (first | exact trivial | exact wkE_refl _ | refine And.intro ?_ ?_)); done)) | refine RdN.intro _ rfl (by rfl) ?_); (conv => whnf))))
          have hol2 : (o ++ [UInt8.ofNat (16 * y + 0)]).length = o.length + 1 := by rw [List.length_append]; rfl
          refine ⟨(i + 1, o ++ [UInt8.ofNat (16 * y + 0)], some g, cap), ⟨by omega, hnx, ⟨fun h => (by cases h), by rw [hol2, ← hol]; exact hob.2⟩, by omega⟩, by show n - (i + 1) < n - i; omega, ?_, ?_⟩
          · (repeat' (first | exact trivial | refine And.intro (by with_reducible rfl) ?_ | (with_reducible exact wkC_refl _) | (with_reducible exact wkCs_refl _) | refine And.intro ?_ ?_))
            all_goals first | rfl | (rw [hol2]; done) | exact av_int (by first | omega | (rw [wrap_i64 (by omega)]; omega))
          · exact ⟨wkE_refl _, .inl ⟨rfl, rfl, rfl, rfl, hol2.symm, rfl⟩, wkH_nil _⟩
    · have hin : i = n := by omega
      rw [hin] at hI
      rw [hS, hI]
      ((conv => whnf); (repeat ((first | refine BoxN.own ?_ | refine RwN.own ?_ | refine VrN.norm (wrap_i64 (by omega)) ?_ | refine VrN.keep ?_ | refine DrawN.calm (by decide +kernel) ?_ | refine Nd.mk (by decide +kernel) ?_ | refine Nd.mk (by omega) ?_ | (refine Nd.mk ?_ ?_; focus ((repeat' (first | exact trivial | exact wkE_refl _ | refine And.intro ?_ ?_)); done)) | refine RdN.intro _ rfl (by rfl) ?_); (conv => whnf))))
      exact fin_p _ ⟨_, rfl, ob, cap, rfl, fun h => (hob.1 h).1, fun w hw => by simpa using hw⟩ (fun w hw => hw.2.1)
end Go.Proofs.YtjkchonpnocffaaDoor

/-
  Contract: the numbers of a directive are read (program).
-/
namespace Go.Proofs.YtjkchonpnocffaaDoor
open Go.AX Go.RowKit Go.Pack
set_option maxRecDepth 20000

/-- What a reader leaves: items, where they lie, where it stands, the error. -/
structure NSt where
  l : List Pack.Item
  ob : Option Nat
  cap : Nat
  at_ : Nat
  e : Int
def itemsE (l : List Pack.Item) (ob : Option Nat) (cap : Nat) : Ent := .app 49 3 (itemsC l) (at0 ob) l.length cap
def NSt.ok (d : Dir) (s : List UInt8) (a : Nat) (l : List Pack.Item) (i : NSt) : Prop :=
  i.at_ ≤ s.length ∧ (i.ob = none → i.l = [] ∧ i.cap = 0) ∧ i.l.length ≤ i.cap ∧ i.l.length ≤ l.length + 1000001 ∧
    match numsS d (s.drop a) with | .ok (ns, r) => i.e = 0 ∧ i.l = l ++ ns.map intI ∧ s.drop i.at_ = r | .error e => i.e = e ∧ e ≠ 0
theorem itemsC_snoc (l : List Pack.Item) (x : Pack.Item) : itemsC l ++ itemC x = itemsC (l ++ [x]) := by simp [itemsC]
theorem allN_succ (d : Dir) (f : Nat) (s : List UInt8) (out : List Int) : allN d (f + 1) s out = if s.length < max 1 (sz d.letter) then .ok (out, s) else match rdNum d s with | .error e => .error e | .ok (n, k) => allN d f (s.drop k) (out ++ [n]) := rfl
theorem cntN_succ (d : Dir) (f : Nat) (s : List UInt8) (out : List Int) : cntN d (f + 1) s out = match rdNum d s with | .error e => .error e | .ok (n, k) => cntN d f (s.drop k) (out ++ [n]) := rfl
theorem numbers_c (d : Dir) (ub : Nat) (s : List UInt8) (a : Nat) (l : List Pack.Item) (ob : Option Nat) (cap : Nat) (hl : letters.contains d.letter = true) (hst : isStr d.letter = false) (hp : isPl d.letter = false) (hc : CntOk d.letter d.count)
    (hob : (ob = none → l = [] ∧ cap = 0) ∧ l.length ≤ cap) (hll : l.length ≤ 100000000) (ha : a ≤ s.length) (hs : s.length ≤ 1000000) :
    SpecH Tryd.prog 27 [.c (.v (.pointer (some ⟨ub, 0, none⟩))), .c (.v (dirV d))] [.fact UtfF, unE ub s a ob l.length cap, itemsE l ob cap]
      (RetG (NSt.ok d s a l) (fun i => .int .i64 i.e) fun i => [.fact UtfF, unE ub s i.at_ i.ob i.l.length i.cap, itemsE i.l i.ob i.cap]) := by
  refine ownC hm Tryd.func27 (by kernel_rfl) rfl rfl (fun _ _ => okHB_eq rfl) (fun _ _ => Nat.le_refl _) ?_
  have hz := letter_num hl hst hp
  have h8 := sz_le8 d.letter
  ((conv => whnf); (repeat ((first | refine BoxN.own ?_ | refine RwN.own ?_ | refine VrN.norm (wrap_i64 (by omega)) ?_ | refine VrN.keep ?_ | refine DrawN.calm (by decide +kernel) ?_ | refine Nd.mk (by decide +kernel) ?_ | refine Nd.mk (by omega) ?_ | (refine Nd.mk ?_ ?_; focus ((repeat' (first | exact trivial | exact wkE_refl _ | refine And.intro ?_ ?_)); done)) | refine RdN.intro _ rfl (by rfl) ?_); (conv => whnf))))
  refine brd_eq (fun hk => ?_) (fun hk => ?_)
  · have hk1 : ¬ d.count = -1 := by omega
    have hcn : cntS d 0 = 1 := by unfold cntS; rw [if_pos hk]
    -- so many numbers: 1
    have hN : numsS d (s.drop a) = cntN d (1) (s.drop a) [] := by unfold numsS; rw [if_neg hk1, hcn]
    have hz := letter_num hl hst hp
    ((conv => whnf); (repeat ((first | refine BoxN.own ?_ | refine RwN.own ?_ | refine VrN.norm (wrap_i64 (by omega)) ?_ | refine VrN.keep ?_ | refine DrawN.calm (by decide +kernel) ?_ | refine Nd.mk (by decide +kernel) ?_ | refine Nd.mk (by omega) ?_ | (refine Nd.mk ?_ ?_; focus ((repeat' (first | exact trivial | exact wkE_refl _ | refine And.intro ?_ ?_)); done)) | refine RdN.intro _ rfl (by rfl) ?_); (conv => whnf))))
    refine LoopN.intro (Nat × Nat × List Int × List Pack.Item × Option Nat × Nat) (fun ⟨j, at', ns, l', ob', cap'⟩ => at' ≤ s.length ∧ j ≤ 1 ∧ l' = l ++ ns.map intI ∧ ns.length = j ∧ ((ob' = none → l' = [] ∧ cap' = 0) ∧ l'.length ≤ cap') ∧ cntN d (1 - j) (s.drop at') ns = cntN d (1) (s.drop a) [])
      (fun ⟨j, _, _, _, _, _⟩ => mkS Tryd.f27.ntmps 0 [(0, .c (.v (.pointer (some ⟨ub, 0, none⟩)))), (3, .c (.lp 3 0)), (5, .c (.v (.int .i64 ((1 : Nat) : Int)))), (6, .c (.v (.int .i64 (j : Int))))])
      (fun ⟨_, at', _, l', ob', cap'⟩ => [.fact UtfF, unE ub s at' ob' l'.length cap', itemsE l' ob' cap', .blk 57 [.v (.int .u8 (d.letter.toNat : Int)), .v (.bool d.big), .v (.int .i64 d.count)]]) (fun ⟨j, _, _, _, _, _⟩ => 1 - j) [] rfl
      (fun _ => rfl) (fun _ => rfl) (fun _ _ => okHB_eq rfl) ⟨(0, a, [], l, ob, cap), ⟨ha, Nat.zero_le _, by simp, rfl, hob, rfl⟩, ?_, ?_⟩ ?_
    · (repeat' (first | exact trivial | refine And.intro (by with_reducible rfl) ?_ | (with_reducible exact wkC_refl _) | (with_reducible exact wkCs_refl _) | refine And.intro ?_ ?_))
      all_goals first | rfl | exact av_int (by omega)
    · exact ⟨wkE_refl _, wkE_refl _, wkE_refl _, wkE_refl _, wkH_nil _⟩
    rintro ⟨j, at', ns, l', ob', cap'⟩ ⟨hat, hja, hl', hns, hob', hgo⟩
    have hns2 : (ns.map intI).length = j := by simp [hns]
    have hlen : l'.length ≤ l.length + 1000001 := by rw [hl', List.length_append]; omega
    ((conv => whnf); (repeat ((first | refine BoxN.own ?_ | refine RwN.own ?_ | refine VrN.norm (wrap_i64 (by omega)) ?_ | refine VrN.keep ?_ | refine DrawN.calm (by decide +kernel) ?_ | refine Nd.mk (by decide +kernel) ?_ | refine Nd.mk (by omega) ?_ | (refine Nd.mk ?_ ?_; focus ((repeat' (first | exact trivial | exact wkE_refl _ | refine And.intro ?_ ?_)); done)) | refine RdN.intro _ rfl (by rfl) ?_); (conv => whnf))))
    refine brd_ne (fun h1 => ?_) (fun h1 => ?_)
    · ((conv => whnf); (repeat ((first | refine BoxN.own ?_ | refine RwN.own ?_ | refine VrN.norm (wrap_i64 (by omega)) ?_ | refine VrN.keep ?_ | refine DrawN.calm (by decide +kernel) ?_ | refine Nd.mk (by decide +kernel) ?_ | refine Nd.mk (by omega) ?_ | (refine Nd.mk ?_ ?_; focus ((repeat' (first | exact trivial | exact wkE_refl _ | refine And.intro ?_ ?_)); done)) | refine RdN.intro _ rfl (by rfl) ?_); (conv => whnf))))
      try refine brd_eq (fun h => absurd h hk1) (fun _ => ?_)
      rw [show 1 - j = (1 - j - 1) + 1 by omega, cntN_succ d (1 - j - 1) (s.drop at') ns] at hgo
      -- one number more: state (j, at, ns, l', ob', cap'); by rw [show 1 - (j + 1) = 1 - j - 1 by omega, ← hgo, List.drop_drop]: the times (an Int), by show 1 - (j + 1) < 1 - j; omega: what to do with an error, $3: what to do with a number
      ((conv => whnf); (repeat ((first | refine BoxN.own ?_ | refine RwN.own ?_ | refine VrN.norm (wrap_i64 (by omega)) ?_ | refine VrN.keep ?_ | refine DrawN.calm (by decide +kernel) ?_ | refine Nd.mk (by decide +kernel) ?_ | refine Nd.mk (by omega) ?_ | (refine Nd.mk ?_ ?_; focus ((repeat' (first | exact trivial | exact wkE_refl _ | refine And.intro ?_ ?_)); done)) | refine RdN.intro _ rfl (by rfl) ?_); (conv => whnf))))
      refine callG (number_u d ub s at' ob' l'.length cap' hl hst hp hat hs) [0, 1] rfl ⟨rfl, rfl, trivial⟩ rfl ?_
      rintro ⟨n, e, at2⟩ hok
      cases hr : rdNum d (s.drop at') with
      | error e0 =>
        rw [hr] at hok hgo
        obtain ⟨h7, h8, h9⟩ := hok
        simp only at h7 h8 h9
        subst h7; subst h8
        have he := rdNum_err hr
        ((conv => whnf); (repeat ((first | refine BoxN.own ?_ | refine RwN.own ?_ | refine VrN.norm (wrap_i64 (by omega)) ?_ | refine VrN.keep ?_ | refine DrawN.calm (by decide +kernel) ?_ | refine Nd.mk (by decide +kernel) ?_ | refine Nd.mk (by omega) ?_ | (refine Nd.mk ?_ ?_; focus ((repeat' (first | exact trivial | exact wkE_refl _ | refine And.intro ?_ ?_)); done)) | refine RdN.intro _ rfl (by rfl) ?_); (conv => whnf))))
        refine brd_ne (fun _ => ?_) (fun h6 => absurd h6 he)
        ((conv => whnf); (repeat ((first | refine BoxN.own ?_ | refine RwN.own ?_ | refine VrN.norm (wrap_i64 (by omega)) ?_ | refine VrN.keep ?_ | refine DrawN.calm (by decide +kernel) ?_ | refine Nd.mk (by decide +kernel) ?_ | refine Nd.mk (by omega) ?_ | (refine Nd.mk ?_ ?_; focus ((repeat' (first | exact trivial | exact wkE_refl _ | refine And.intro ?_ ?_)); done)) | refine RdN.intro _ rfl (by rfl) ?_); (conv => whnf))))
        refine ⟨⟨l', ob', cap', at2, e⟩, ⟨h9, hob'.1, hob'.2, hlen, ?_⟩, rfl, wkE_refl _, wkE_refl _, wkE_refl _, wkH_nil _⟩
        rw [hN, ← hgo]
        exact ⟨rfl, he⟩
      | ok x =>
        obtain ⟨n0, k⟩ := x
        have hk := rdNum_pos hz hr
        rw [hr] at hok hgo
        obtain ⟨h7, h9⟩ := hok
        injection h7 with h7 h8
        injection h8 with h8 h10
        subst h7; subst h8; subst h10
        simp only at hgo hk
        ((conv => whnf); (repeat ((first | refine BoxN.own ?_ | refine RwN.own ?_ | refine VrN.norm (wrap_i64 (by omega)) ?_ | refine VrN.keep ?_ | refine DrawN.calm (by decide +kernel) ?_ | refine Nd.mk (by decide +kernel) ?_ | refine Nd.mk (by omega) ?_ | (refine Nd.mk ?_ ?_; focus ((repeat' (first | exact trivial | exact wkE_refl _ | refine And.intro ?_ ?_)); done)) | refine RdN.intro _ rfl (by rfl) ?_); (conv => whnf))))
        refine LdN.one (a := some ⟨ub, 0, none⟩) (q := 2) (.slice (at0 ob') l'.length cap') rfl (fun w hw => hw.2.1) rfl ?_
        ((conv => whnf); (repeat ((first | refine BoxN.own ?_ | refine RwN.own ?_ | refine VrN.norm (wrap_i64 (by omega)) ?_ | refine VrN.keep ?_ | refine DrawN.calm (by decide +kernel) ?_ | refine Nd.mk (by decide +kernel) ?_ | refine Nd.mk (by omega) ?_ | (refine Nd.mk ?_ ?_; focus ((repeat' (first | exact trivial | exact wkE_refl _ | refine And.intro ?_ ?_)); done)) | refine RdN.intro _ rfl (by rfl) ?_); (conv => whnf))))
        refine Nd.mk ⟨Nat.le_refl 1, rfl, rfl⟩ ?_
        (conv => whnf)
        refine AppN.grow 2 (itemsC l') (itemC (intI n)) rfl rfl ⟨Nat.le_refl 1, ⟨by show (l'.length + 1) * 32 ≤ _; omega, by omega⟩, by show 3 ≠ 0; omega⟩ fun b' cap2 h11 h12 => ?_
        ((conv => whnf); (repeat ((first | refine BoxN.own ?_ | refine RwN.own ?_ | refine VrN.norm (wrap_i64 (by omega)) ?_ | refine VrN.keep ?_ | refine DrawN.calm (by decide +kernel) ?_ | refine Nd.mk (by decide +kernel) ?_ | refine Nd.mk (by omega) ?_ | (refine Nd.mk ?_ ?_; focus ((repeat' (first | exact trivial | exact wkE_refl _ | refine And.intro ?_ ?_)); done)) | refine RdN.intro _ rfl (by rfl) ?_); (conv => whnf))))
        refine EffW.appTo (i := 1) (q := 2) (ys := [_]) (unC s (at' + k) (some b') (l'.length + 1) cap2) 3 rfl rfl rfl rfl rfl rfl rfl (Nat.le_of_ble_eq_true rfl) rfl rfl ?_
        ((conv => whnf); (repeat ((first | refine BoxN.own ?_ | refine RwN.own ?_ | refine VrN.norm (wrap_i64 (by omega)) ?_ | refine VrN.keep ?_ | refine DrawN.calm (by decide +kernel) ?_ | refine Nd.mk (by decide +kernel) ?_ | refine Nd.mk (by omega) ?_ | (refine Nd.mk ?_ ?_; focus ((repeat' (first | exact trivial | exact wkE_refl _ | refine And.intro ?_ ?_)); done)) | refine RdN.intro _ rfl (by rfl) ?_); (conv => whnf))))
        have hl3 : l' ++ [intI n] = l ++ (ns ++ [n]).map intI := by rw [hl']; simp
        refine ⟨(j + 1, at' + k, ns ++ [n], l' ++ [intI n], some b', cap2), ⟨h9, by omega, hl3, by simp; omega, ⟨fun h => (by cases h), by rw [List.length_append]; exact h11⟩, by rw [show 1 - (j + 1) = 1 - j - 1 by omega, ← hgo, List.drop_drop]⟩, by show 1 - (j + 1) < 1 - j; omega, ?_, ?_⟩
        · (repeat' (first | exact trivial | refine And.intro (by with_reducible rfl) ?_ | (with_reducible exact wkC_refl _) | (with_reducible exact wkCs_refl _) | refine And.intro ?_ ?_))
          all_goals first | rfl | exact av_int (by rw [wrap_i64 (by omega)]; omega)
        · refine ⟨wkE_refl _, ?_, ?_, wkE_refl _, wkH_nil _⟩
          · show wkE (.app _ _ _ _ _ _) (unE ub s (at' + k) (some b') (l' ++ [intI n]).length cap2)
            rw [List.length_append]
            exact wkE_refl _
          · refine .inl ⟨rfl, rfl, itemsC_snoc _ _, rfl, by rw [List.length_append]; rfl, rfl⟩
    · have hj : j = 1 := by omega
      have hgo2 : cntN d (1) (s.drop a) [] = .ok (ns, s.drop at') := by
        rw [← hgo, hj, Nat.sub_self]
        rfl
      ((conv => whnf); (repeat ((first | refine BoxN.own ?_ | refine RwN.own ?_ | refine VrN.norm (wrap_i64 (by omega)) ?_ | refine VrN.keep ?_ | refine DrawN.calm (by decide +kernel) ?_ | refine Nd.mk (by decide +kernel) ?_ | refine Nd.mk (by omega) ?_ | (refine Nd.mk ?_ ?_; focus ((repeat' (first | exact trivial | exact wkE_refl _ | refine And.intro ?_ ?_)); done)) | refine RdN.intro _ rfl (by rfl) ?_); (conv => whnf))))
      refine ⟨⟨l', ob', cap', at', 0⟩, ⟨hat, hob'.1, hob'.2, hlen, ?_⟩, rfl, wkE_refl _, wkE_refl _, wkE_refl _, wkH_nil _⟩
      rw [hN, hgo2]
      exact ⟨rfl, hl', rfl⟩
  · by_cases hk1 : d.count = -1
    · have hN : numsS d (s.drop a) = allN d (s.length - a + 1) (s.drop a) [] := by unfold numsS; rw [if_pos hk1, List.length_drop]
      ((conv => whnf); (repeat ((first | refine BoxN.own ?_ | refine RwN.own ?_ | refine VrN.norm (wrap_i64 (by omega)) ?_ | refine VrN.keep ?_ | refine DrawN.calm (by decide +kernel) ?_ | refine Nd.mk (by decide +kernel) ?_ | refine Nd.mk (by omega) ?_ | (refine Nd.mk ?_ ?_; focus ((repeat' (first | exact trivial | exact wkE_refl _ | refine And.intro ?_ ?_)); done)) | refine RdN.intro _ rfl (by rfl) ?_); (conv => whnf))))
      refine LoopN.intro (Nat × Nat × List Int × List Pack.Item × Option Nat × Nat) (fun ⟨j, at', ns, l', ob', cap'⟩ => at' ≤ s.length ∧ a + j ≤ at' ∧ l' = l ++ ns.map intI ∧ ns.length = j ∧ ((ob' = none → l' = [] ∧ cap' = 0) ∧ l'.length ≤ cap') ∧ allN d (s.length - a + 1 - j) (s.drop at') ns = allN d (s.length - a + 1) (s.drop a) [])
        (fun ⟨j, _, _, _, _, _⟩ => mkS Tryd.f27.ntmps 0 [(0, .c (.v (.pointer (some ⟨ub, 0, none⟩)))), (3, .c (.lp 3 0)), (5, .c (.v (.int .i64 d.count))), (6, .c (.v (.int .i64 (j : Int))))])
        (fun ⟨_, at', _, l', ob', cap'⟩ => [.fact UtfF, unE ub s at' ob' l'.length cap', itemsE l' ob' cap', .blk 57 [.v (.int .u8 (d.letter.toNat : Int)), .v (.bool d.big), .v (.int .i64 d.count)]]) (fun ⟨_, at', _, _, _, _⟩ => s.length - at') [] rfl
        (fun _ => rfl) (fun _ => rfl) (fun _ _ => okHB_eq rfl) ⟨(0, a, [], l, ob, cap), ⟨ha, Nat.le_refl _, by simp, rfl, hob, rfl⟩, ?_, ?_⟩ ?_
      · (repeat' (first | exact trivial | refine And.intro (by with_reducible rfl) ?_ | (with_reducible exact wkC_refl _) | (with_reducible exact wkCs_refl _) | refine And.intro ?_ ?_))
        all_goals rfl
      · exact ⟨wkE_refl _, wkE_refl _, wkE_refl _, wkE_refl _, wkH_nil _⟩
      rintro ⟨j, at', ns, l', ob', cap'⟩ ⟨hat, hja, hl', hns, hob', hgo⟩
      ((conv => whnf); (repeat ((first | refine BoxN.own ?_ | refine RwN.own ?_ | refine VrN.norm (wrap_i64 (by omega)) ?_ | refine VrN.keep ?_ | refine DrawN.calm (by decide +kernel) ?_ | refine Nd.mk (by decide +kernel) ?_ | refine Nd.mk (by omega) ?_ | (refine Nd.mk ?_ ?_; focus ((repeat' (first | exact trivial | exact wkE_refl _ | refine And.intro ?_ ?_)); done)) | refine RdN.intro _ rfl (by rfl) ?_); (conv => whnf))))
      refine brd_ne (fun h1 => ?_) (fun h1 => absurd h1 (by omega))
      ((conv => whnf); (repeat ((first | refine BoxN.own ?_ | refine RwN.own ?_ | refine VrN.norm (wrap_i64 (by omega)) ?_ | refine VrN.keep ?_ | refine DrawN.calm (by decide +kernel) ?_ | refine Nd.mk (by decide +kernel) ?_ | refine Nd.mk (by omega) ?_ | (refine Nd.mk ?_ ?_; focus ((repeat' (first | exact trivial | exact wkE_refl _ | refine And.intro ?_ ?_)); done)) | refine RdN.intro _ rfl (by rfl) ?_); (conv => whnf))))
      refine brd_eq (fun _ => ?_) (fun h => absurd hk1 h)
      have hns2 : (ns.map intI).length = j := by simp [hns]
      have hlen : l'.length ≤ l.length + 1000001 := by rw [hl', List.length_append]; omega
      ((conv => whnf); (repeat ((first | refine BoxN.own ?_ | refine RwN.own ?_ | refine VrN.norm (wrap_i64 (by omega)) ?_ | refine VrN.keep ?_ | refine DrawN.calm (by decide +kernel) ?_ | refine Nd.mk (by decide +kernel) ?_ | refine Nd.mk (by omega) ?_ | (refine Nd.mk ?_ ?_; focus ((repeat' (first | exact trivial | exact wkE_refl _ | refine And.intro ?_ ?_)); done)) | refine RdN.intro _ rfl (by rfl) ?_); (conv => whnf))))
      refine callQ (left_c ub s at' ob' l'.length cap' hat hs _ (fun w hw => hw.2.1)) ?_
      ((conv => whnf); (repeat ((first | refine BoxN.own ?_ | refine RwN.own ?_ | refine VrN.norm (wrap_i64 (by omega)) ?_ | refine VrN.keep ?_ | refine DrawN.calm (by decide +kernel) ?_ | refine Nd.mk (by decide +kernel) ?_ | refine Nd.mk (by omega) ?_ | (refine Nd.mk ?_ ?_; focus ((repeat' (first | exact trivial | exact wkE_refl _ | refine And.intro ?_ ?_)); done)) | refine RdN.intro _ rfl (by rfl) ?_); (conv => whnf))))
      refine brd_eq (fun h2 => ?_) (fun h2 => ?_)
      · skip
        -- no more bytes
        have hgo2 : allN d (s.length - a + 1) (s.drop a) [] = .ok (ns, s.drop at') := by
          rw [← hgo, show s.length - a + 1 - j = (s.length - a - j) + 1 by omega]
          unfold allN
          rw [if_pos (by rw [List.length_drop]; omega)]
        ((conv => whnf); (repeat ((first | refine BoxN.own ?_ | refine RwN.own ?_ | refine VrN.norm (wrap_i64 (by omega)) ?_ | refine VrN.keep ?_ | refine DrawN.calm (by decide +kernel) ?_ | refine Nd.mk (by decide +kernel) ?_ | refine Nd.mk (by omega) ?_ | (refine Nd.mk ?_ ?_; focus ((repeat' (first | exact trivial | exact wkE_refl _ | refine And.intro ?_ ?_)); done)) | refine RdN.intro _ rfl (by rfl) ?_); (conv => whnf))))
        refine ⟨⟨l', ob', cap', at', 0⟩, ⟨hat, hob'.1, hob'.2, hlen, ?_⟩, rfl, wkE_refl _, wkE_refl _, wkE_refl _, wkH_nil _⟩
        rw [hN, hgo2]
        exact ⟨rfl, hl', rfl⟩
      · ((conv => whnf); (repeat ((first | refine BoxN.own ?_ | refine RwN.own ?_ | refine VrN.norm (wrap_i64 (by omega)) ?_ | refine VrN.keep ?_ | refine DrawN.calm (by decide +kernel) ?_ | refine Nd.mk (by decide +kernel) ?_ | refine Nd.mk (by omega) ?_ | (refine Nd.mk ?_ ?_; focus ((repeat' (first | exact trivial | exact wkE_refl _ | refine And.intro ?_ ?_)); done)) | refine RdN.intro _ rfl (by rfl) ?_); (conv => whnf))))
        refine callQ (left_c ub s at' ob' l'.length cap' hat hs _ (fun w hw => hw.2.1)) ?_
        ((conv => whnf); (repeat ((first | refine BoxN.own ?_ | refine RwN.own ?_ | refine VrN.norm (wrap_i64 (by omega)) ?_ | refine VrN.keep ?_ | refine DrawN.calm (by decide +kernel) ?_ | refine Nd.mk (by decide +kernel) ?_ | refine Nd.mk (by omega) ?_ | (refine Nd.mk ?_ ?_; focus ((repeat' (first | exact trivial | exact wkE_refl _ | refine And.intro ?_ ?_)); done)) | refine RdN.intro _ rfl (by rfl) ?_); (conv => whnf))))
        refine callQ (bytes_c d _) ?_
        ((conv => whnf); (repeat ((first | refine BoxN.own ?_ | refine RwN.own ?_ | refine VrN.norm (wrap_i64 (by omega)) ?_ | refine VrN.keep ?_ | refine DrawN.calm (by decide +kernel) ?_ | refine Nd.mk (by decide +kernel) ?_ | refine Nd.mk (by omega) ?_ | (refine Nd.mk ?_ ?_; focus ((repeat' (first | exact trivial | exact wkE_refl _ | refine And.intro ?_ ?_)); done)) | refine RdN.intro _ rfl (by rfl) ?_); (conv => whnf))))
        refine brd_dec (fun h3 => ?_) (fun h3 => ?_)
        · skip
          -- no more bytes
          have hgo2 : allN d (s.length - a + 1) (s.drop a) [] = .ok (ns, s.drop at') := by
            rw [← hgo, show s.length - a + 1 - j = (s.length - a - j) + 1 by omega]
            unfold allN
            rw [if_pos (by rw [List.length_drop]; omega)]
          ((conv => whnf); (repeat ((first | refine BoxN.own ?_ | refine RwN.own ?_ | refine VrN.norm (wrap_i64 (by omega)) ?_ | refine VrN.keep ?_ | refine DrawN.calm (by decide +kernel) ?_ | refine Nd.mk (by decide +kernel) ?_ | refine Nd.mk (by omega) ?_ | (refine Nd.mk ?_ ?_; focus ((repeat' (first | exact trivial | exact wkE_refl _ | refine And.intro ?_ ?_)); done)) | refine RdN.intro _ rfl (by rfl) ?_); (conv => whnf))))
          refine ⟨⟨l', ob', cap', at', 0⟩, ⟨hat, hob'.1, hob'.2, hlen, ?_⟩, rfl, wkE_refl _, wkE_refl _, wkE_refl _, wkH_nil _⟩
          rw [hN, hgo2]
          exact ⟨rfl, hl', rfl⟩
        · rw [show s.length - a + 1 - j = (s.length - a - j) + 1 by omega] at hgo
          rw [allN_succ d (s.length - a - j) (s.drop at') ns, if_neg (by rw [List.length_drop]; omega)] at hgo
          -- one number more: state (j, at, ns, l', ob', cap'); by rw [show s.length - a + 1 - (j + 1) = s.length - a - j by omega, ← hgo, List.drop_drop]: the times (an Int), by show s.length - (at' + k) < s.length - at'; omega: what to do with an error, $3: what to do with a number
          ((conv => whnf); (repeat ((first | refine BoxN.own ?_ | refine RwN.own ?_ | refine VrN.norm (wrap_i64 (by omega)) ?_ | refine VrN.keep ?_ | refine DrawN.calm (by decide +kernel) ?_ | refine Nd.mk (by decide +kernel) ?_ | refine Nd.mk (by omega) ?_ | (refine Nd.mk ?_ ?_; focus ((repeat' (first | exact trivial | exact wkE_refl _ | refine And.intro ?_ ?_)); done)) | refine RdN.intro _ rfl (by rfl) ?_); (conv => whnf))))
          refine callG (number_u d ub s at' ob' l'.length cap' hl hst hp hat hs) [0, 1] rfl ⟨rfl, rfl, trivial⟩ rfl ?_
          rintro ⟨n, e, at2⟩ hok
          cases hr : rdNum d (s.drop at') with
          | error e0 =>
            rw [hr] at hok hgo
            obtain ⟨h7, h8, h9⟩ := hok
            simp only at h7 h8 h9
            subst h7; subst h8
            have he := rdNum_err hr
            ((conv => whnf); (repeat ((first | refine BoxN.own ?_ | refine RwN.own ?_ | refine VrN.norm (wrap_i64 (by omega)) ?_ | refine VrN.keep ?_ | refine DrawN.calm (by decide +kernel) ?_ | refine Nd.mk (by decide +kernel) ?_ | refine Nd.mk (by omega) ?_ | (refine Nd.mk ?_ ?_; focus ((repeat' (first | exact trivial | exact wkE_refl _ | refine And.intro ?_ ?_)); done)) | refine RdN.intro _ rfl (by rfl) ?_); (conv => whnf))))
            refine brd_ne (fun _ => ?_) (fun h6 => absurd h6 he)
            ((conv => whnf); (repeat ((first | refine BoxN.own ?_ | refine RwN.own ?_ | refine VrN.norm (wrap_i64 (by omega)) ?_ | refine VrN.keep ?_ | refine DrawN.calm (by decide +kernel) ?_ | refine Nd.mk (by decide +kernel) ?_ | refine Nd.mk (by omega) ?_ | (refine Nd.mk ?_ ?_; focus ((repeat' (first | exact trivial | exact wkE_refl _ | refine And.intro ?_ ?_)); done)) | refine RdN.intro _ rfl (by rfl) ?_); (conv => whnf))))
            refine ⟨⟨l', ob', cap', at2, e⟩, ⟨h9, hob'.1, hob'.2, hlen, ?_⟩, rfl, wkE_refl _, wkE_refl _, wkE_refl _, wkH_nil _⟩
            rw [hN, ← hgo]
            exact ⟨rfl, he⟩
          | ok x =>
            obtain ⟨n0, k⟩ := x
            have hk := rdNum_pos hz hr
            rw [hr] at hok hgo
            obtain ⟨h7, h9⟩ := hok
            injection h7 with h7 h8
            injection h8 with h8 h10
            subst h7; subst h8; subst h10
            simp only at hgo hk
            ((conv => whnf); (repeat ((first | refine BoxN.own ?_ | refine RwN.own ?_ | refine VrN.norm (wrap_i64 (by omega)) ?_ | refine VrN.keep ?_ | refine DrawN.calm (by decide +kernel) ?_ | refine Nd.mk (by decide +kernel) ?_ | refine Nd.mk (by omega) ?_ | (refine Nd.mk ?_ ?_; focus ((repeat' (first | exact trivial | exact wkE_refl _ | refine And.intro ?_ ?_)); done)) | refine RdN.intro _ rfl (by rfl) ?_); (conv => whnf))))
            refine LdN.one (a := some ⟨ub, 0, none⟩) (q := 2) (.slice (at0 ob') l'.length cap') rfl (fun w hw => hw.2.1) rfl ?_
            ((conv => whnf); (repeat ((first | refine BoxN.own ?_ | refine RwN.own ?_ | refine VrN.norm (wrap_i64 (by omega)) ?_ | refine VrN.keep ?_ | refine DrawN.calm (by decide +kernel) ?_ | refine Nd.mk (by decide +kernel) ?_ | refine Nd.mk (by omega) ?_ | (refine Nd.mk ?_ ?_; focus ((repeat' (first | exact trivial | exact wkE_refl _ | refine And.intro ?_ ?_)); done)) | refine RdN.intro _ rfl (by rfl) ?_); (conv => whnf))))
            refine Nd.mk ⟨Nat.le_refl 1, rfl, rfl⟩ ?_
            (conv => whnf)
            refine AppN.grow 2 (itemsC l') (itemC (intI n)) rfl rfl ⟨Nat.le_refl 1, ⟨by show (l'.length + 1) * 32 ≤ _; omega, by omega⟩, by show 3 ≠ 0; omega⟩ fun b' cap2 h11 h12 => ?_
            ((conv => whnf); (repeat ((first | refine BoxN.own ?_ | refine RwN.own ?_ | refine VrN.norm (wrap_i64 (by omega)) ?_ | refine VrN.keep ?_ | refine DrawN.calm (by decide +kernel) ?_ | refine Nd.mk (by decide +kernel) ?_ | refine Nd.mk (by omega) ?_ | (refine Nd.mk ?_ ?_; focus ((repeat' (first | exact trivial | exact wkE_refl _ | refine And.intro ?_ ?_)); done)) | refine RdN.intro _ rfl (by rfl) ?_); (conv => whnf))))
            refine EffW.appTo (i := 1) (q := 2) (ys := [_]) (unC s (at' + k) (some b') (l'.length + 1) cap2) 3 rfl rfl rfl rfl rfl rfl rfl (Nat.le_of_ble_eq_true rfl) rfl rfl ?_
            ((conv => whnf); (repeat ((first | refine BoxN.own ?_ | refine RwN.own ?_ | refine VrN.norm (wrap_i64 (by omega)) ?_ | refine VrN.keep ?_ | refine DrawN.calm (by decide +kernel) ?_ | refine Nd.mk (by decide +kernel) ?_ | refine Nd.mk (by omega) ?_ | (refine Nd.mk ?_ ?_; focus ((repeat' (first | exact trivial | exact wkE_refl _ | refine And.intro ?_ ?_)); done)) | refine RdN.intro _ rfl (by rfl) ?_); (conv => whnf))))
            have hl3 : l' ++ [intI n] = l ++ (ns ++ [n]).map intI := by rw [hl']; simp
            refine ⟨(j + 1, at' + k, ns ++ [n], l' ++ [intI n], some b', cap2), ⟨h9, by omega, hl3, by simp; omega, ⟨fun h => (by cases h), by rw [List.length_append]; exact h11⟩, by rw [show s.length - a + 1 - (j + 1) = s.length - a - j by omega, ← hgo, List.drop_drop]⟩, by show s.length - (at' + k) < s.length - at'; omega, ?_, ?_⟩
            · (repeat' (first | exact trivial | refine And.intro (by with_reducible rfl) ?_ | (with_reducible exact wkC_refl _) | (with_reducible exact wkCs_refl _) | refine And.intro ?_ ?_))
              all_goals first | rfl | exact av_int (by rw [wrap_i64 (by omega)]; omega)
            · refine ⟨wkE_refl _, ?_, ?_, wkE_refl _, wkH_nil _⟩
              · show wkE (.app _ _ _ _ _ _) (unE ub s (at' + k) (some b') (l' ++ [intI n]).length cap2)
                rw [List.length_append]
                exact wkE_refl _
              · refine .inl ⟨rfl, rfl, itemsC_snoc _ _, rfl, by rw [List.length_append]; rfl, rfl⟩
    · obtain ⟨T, hT⟩ : ∃ T : Nat, d.count.toNat = T := ⟨_, rfl⟩
      have hT2 : d.count = (T : Int) ∧ T ≤ 1000 := by
        unfold CntOk at hc
        omega
      have hcn : cntS d 0 = T := by unfold cntS; rw [if_neg hk, if_neg hk1]; exact hT
      -- so many numbers: T
      have hN : numsS d (s.drop a) = cntN d (T) (s.drop a) [] := by unfold numsS; rw [if_neg hk1, hcn]
      have hz := letter_num hl hst hp
      ((conv => whnf); (repeat ((first | refine BoxN.own ?_ | refine RwN.own ?_ | refine VrN.norm (wrap_i64 (by omega)) ?_ | refine VrN.keep ?_ | refine DrawN.calm (by decide +kernel) ?_ | refine Nd.mk (by decide +kernel) ?_ | refine Nd.mk (by omega) ?_ | (refine Nd.mk ?_ ?_; focus ((repeat' (first | exact trivial | exact wkE_refl _ | refine And.intro ?_ ?_)); done)) | refine RdN.intro _ rfl (by rfl) ?_); (conv => whnf))))
      refine LoopN.intro (Nat × Nat × List Int × List Pack.Item × Option Nat × Nat) (fun ⟨j, at', ns, l', ob', cap'⟩ => at' ≤ s.length ∧ j ≤ T ∧ l' = l ++ ns.map intI ∧ ns.length = j ∧ ((ob' = none → l' = [] ∧ cap' = 0) ∧ l'.length ≤ cap') ∧ cntN d (T - j) (s.drop at') ns = cntN d (T) (s.drop a) [])
        (fun ⟨j, _, _, _, _, _⟩ => mkS Tryd.f27.ntmps 0 [(0, .c (.v (.pointer (some ⟨ub, 0, none⟩)))), (3, .c (.lp 3 0)), (5, .c (.v (.int .i64 ((T : Nat) : Int)))), (6, .c (.v (.int .i64 (j : Int))))])
        (fun ⟨_, at', _, l', ob', cap'⟩ => [.fact UtfF, unE ub s at' ob' l'.length cap', itemsE l' ob' cap', .blk 57 [.v (.int .u8 (d.letter.toNat : Int)), .v (.bool d.big), .v (.int .i64 d.count)]]) (fun ⟨j, _, _, _, _, _⟩ => T - j) [] rfl
        (fun _ => rfl) (fun _ => rfl) (fun _ _ => okHB_eq rfl) ⟨(0, a, [], l, ob, cap), ⟨ha, Nat.zero_le _, by simp, rfl, hob, rfl⟩, ?_, ?_⟩ ?_
      · (repeat' (first | exact trivial | refine And.intro (by with_reducible rfl) ?_ | (with_reducible exact wkC_refl _) | (with_reducible exact wkCs_refl _) | refine And.intro ?_ ?_))
        all_goals first | rfl | exact av_int (by omega)
      · exact ⟨wkE_refl _, wkE_refl _, wkE_refl _, wkE_refl _, wkH_nil _⟩
      rintro ⟨j, at', ns, l', ob', cap'⟩ ⟨hat, hja, hl', hns, hob', hgo⟩
      have hns2 : (ns.map intI).length = j := by simp [hns]
      have hlen : l'.length ≤ l.length + 1000001 := by rw [hl', List.length_append]; omega
      ((conv => whnf); (repeat ((first | refine BoxN.own ?_ | refine RwN.own ?_ | refine VrN.norm (wrap_i64 (by omega)) ?_ | refine VrN.keep ?_ | refine DrawN.calm (by decide +kernel) ?_ | refine Nd.mk (by decide +kernel) ?_ | refine Nd.mk (by omega) ?_ | (refine Nd.mk ?_ ?_; focus ((repeat' (first | exact trivial | exact wkE_refl _ | refine And.intro ?_ ?_)); done)) | refine RdN.intro _ rfl (by rfl) ?_); (conv => whnf))))
      refine brd_ne (fun h1 => ?_) (fun h1 => ?_)
      · ((conv => whnf); (repeat ((first | refine BoxN.own ?_ | refine RwN.own ?_ | refine VrN.norm (wrap_i64 (by omega)) ?_ | refine VrN.keep ?_ | refine DrawN.calm (by decide +kernel) ?_ | refine Nd.mk (by decide +kernel) ?_ | refine Nd.mk (by omega) ?_ | (refine Nd.mk ?_ ?_; focus ((repeat' (first | exact trivial | exact wkE_refl _ | refine And.intro ?_ ?_)); done)) | refine RdN.intro _ rfl (by rfl) ?_); (conv => whnf))))
        try refine brd_eq (fun h => absurd h hk1) (fun _ => ?_)
        rw [show T - j = (T - j - 1) + 1 by omega, cntN_succ d (T - j - 1) (s.drop at') ns] at hgo
        -- one number more: state (j, at, ns, l', ob', cap'); by rw [show T - (j + 1) = T - j - 1 by omega, ← hgo, List.drop_drop]: the times (an Int), by show T - (j + 1) < T - j; omega: what to do with an error, $3: what to do with a number
        ((conv => whnf); (repeat ((first | refine BoxN.own ?_ | refine RwN.own ?_ | refine VrN.norm (wrap_i64 (by omega)) ?_ | refine VrN.keep ?_ | refine DrawN.calm (by decide +kernel) ?_ | refine Nd.mk (by decide +kernel) ?_ | refine Nd.mk (by omega) ?_ | (refine Nd.mk ?_ ?_; focus ((repeat' (first | exact trivial | exact wkE_refl _ | refine And.intro ?_ ?_)); done)) | refine RdN.intro _ rfl (by rfl) ?_); (conv => whnf))))
        refine callG (number_u d ub s at' ob' l'.length cap' hl hst hp hat hs) [0, 1] rfl ⟨rfl, rfl, trivial⟩ rfl ?_
        rintro ⟨n, e, at2⟩ hok
        cases hr : rdNum d (s.drop at') with
        | error e0 =>
          rw [hr] at hok hgo
          obtain ⟨h7, h8, h9⟩ := hok
          simp only at h7 h8 h9
          subst h7; subst h8
          have he := rdNum_err hr
          ((conv => whnf); (repeat ((first | refine BoxN.own ?_ | refine RwN.own ?_ | refine VrN.norm (wrap_i64 (by omega)) ?_ | refine VrN.keep ?_ | refine DrawN.calm (by decide +kernel) ?_ | refine Nd.mk (by decide +kernel) ?_ | refine Nd.mk (by omega) ?_ | (refine Nd.mk ?_ ?_; focus ((repeat' (first | exact trivial | exact wkE_refl _ | refine And.intro ?_ ?_)); done)) | refine RdN.intro _ rfl (by rfl) ?_); (conv => whnf))))
          refine brd_ne (fun _ => ?_) (fun h6 => absurd h6 he)
          ((conv => whnf); (repeat ((first | refine BoxN.own ?_ | refine RwN.own ?_ | refine VrN.norm (wrap_i64 (by omega)) ?_ | refine VrN.keep ?_ | refine DrawN.calm (by decide +kernel) ?_ | refine Nd.mk (by decide +kernel) ?_ | refine Nd.mk (by omega) ?_ | (refine Nd.mk ?_ ?_; focus ((repeat' (first | exact trivial | exact wkE_refl _ | refine And.intro ?_ ?_)); done)) | refine RdN.intro _ rfl (by rfl) ?_); (conv => whnf))))
          refine ⟨⟨l', ob', cap', at2, e⟩, ⟨h9, hob'.1, hob'.2, hlen, ?_⟩, rfl, wkE_refl _, wkE_refl _, wkE_refl _, wkH_nil _⟩
          rw [hN, ← hgo]
          exact ⟨rfl, he⟩
        | ok x =>
          obtain ⟨n0, k⟩ := x
          have hk := rdNum_pos hz hr
          rw [hr] at hok hgo
          obtain ⟨h7, h9⟩ := hok
          injection h7 with h7 h8
          injection h8 with h8 h10
          subst h7; subst h8; subst h10
          simp only at hgo hk
          ((conv => whnf); (repeat ((first | refine BoxN.own ?_ | refine RwN.own ?_ | refine VrN.norm (wrap_i64 (by omega)) ?_ | refine VrN.keep ?_ | refine DrawN.calm (by decide +kernel) ?_ | refine Nd.mk (by decide +kernel) ?_ | refine Nd.mk (by omega) ?_ | (refine Nd.mk ?_ ?_; focus ((repeat' (first | exact trivial | exact wkE_refl _ | refine And.intro ?_ ?_)); done)) | refine RdN.intro _ rfl (by rfl) ?_); (conv => whnf))))
          refine LdN.one (a := some ⟨ub, 0, none⟩) (q := 2) (.slice (at0 ob') l'.length cap') rfl (fun w hw => hw.2.1) rfl ?_
          ((conv => whnf); (repeat ((first | refine BoxN.own ?_ | refine RwN.own ?_ | refine VrN.norm (wrap_i64 (by omega)) ?_ | refine VrN.keep ?_ | refine DrawN.calm (by decide +kernel) ?_ | refine Nd.mk (by decide +kernel) ?_ | refine Nd.mk (by omega) ?_ | (refine Nd.mk ?_ ?_; focus ((repeat' (first | exact trivial | exact wkE_refl _ | refine And.intro ?_ ?_)); done)) | refine RdN.intro _ rfl (by rfl) ?_); (conv => whnf))))
          refine Nd.mk ⟨Nat.le_refl 1, rfl, rfl⟩ ?_
          (conv => whnf)
          refine AppN.grow 2 (itemsC l') (itemC (intI n)) rfl rfl ⟨Nat.le_refl 1, ⟨by show (l'.length + 1) * 32 ≤ _; omega, by omega⟩, by show 3 ≠ 0; omega⟩ fun b' cap2 h11 h12 => ?_
          ((conv => whnf); (repeat ((first | refine BoxN.own ?_ | refine RwN.own ?_ | refine VrN.norm (wrap_i64 (by omega)) ?_ | refine VrN.keep ?_ | refine DrawN.calm (by decide +kernel) ?_ | refine Nd.mk (by decide +kernel) ?_ | refine Nd.mk (by omega) ?_ | (refine Nd.mk ?_ ?_; focus ((repeat' (first | exact trivial | exact wkE_refl _ | refine And.intro ?_ ?_)); done)) | refine RdN.intro _ rfl (by rfl) ?_); (conv => whnf))))
          refine EffW.appTo (i := 1) (q := 2) (ys := [_]) (unC s (at' + k) (some b') (l'.length + 1) cap2) 3 rfl rfl rfl rfl rfl rfl rfl (Nat.le_of_ble_eq_true rfl) rfl rfl ?_
          ((conv => whnf); (repeat ((first | refine BoxN.own ?_ | refine RwN.own ?_ | refine VrN.norm (wrap_i64 (by omega)) ?_ | refine VrN.keep ?_ | refine DrawN.calm (by decide +kernel) ?_ | refine Nd.mk (by decide +kernel) ?_ | refine Nd.mk (by omega) ?_ | (refine Nd.mk ?_ ?_; focus ((repeat' (first | exact trivial | exact wkE_refl _ | refine And.intro ?_ ?_)); done)) | refine RdN.intro _ rfl (by rfl) ?_); (conv => whnf))))
          have hl3 : l' ++ [intI n] = l ++ (ns ++ [n]).map intI := by rw [hl']; simp
          refine ⟨(j + 1, at' + k, ns ++ [n], l' ++ [intI n], some b', cap2), ⟨h9, by omega, hl3, by simp; omega, ⟨fun h => (by cases h), by rw [List.length_append]; exact h11⟩, by rw [show T - (j + 1) = T - j - 1 by omega, ← hgo, List.drop_drop]⟩, by show T - (j + 1) < T - j; omega, ?_, ?_⟩
          · (repeat' (first | exact trivial | refine And.intro (by with_reducible rfl) ?_ | (with_reducible exact wkC_refl _) | (with_reducible exact wkCs_refl _) | refine And.intro ?_ ?_))
            all_goals first | rfl | exact av_int (by rw [wrap_i64 (by omega)]; omega)
          · refine ⟨wkE_refl _, ?_, ?_, wkE_refl _, wkH_nil _⟩
            · show wkE (.app _ _ _ _ _ _) (unE ub s (at' + k) (some b') (l' ++ [intI n]).length cap2)
              rw [List.length_append]
              exact wkE_refl _
            · refine .inl ⟨rfl, rfl, itemsC_snoc _ _, rfl, by rw [List.length_append]; rfl, rfl⟩
      · have hj : j = T := by omega
        have hgo2 : cntN d (T) (s.drop a) [] = .ok (ns, s.drop at') := by
          rw [← hgo, hj, Nat.sub_self]
          rfl
        ((conv => whnf); (repeat ((first | refine BoxN.own ?_ | refine RwN.own ?_ | refine VrN.norm (wrap_i64 (by omega)) ?_ | refine VrN.keep ?_ | refine DrawN.calm (by decide +kernel) ?_ | refine Nd.mk (by decide +kernel) ?_ | refine Nd.mk (by omega) ?_ | (refine Nd.mk ?_ ?_; focus ((repeat' (first | exact trivial | exact wkE_refl _ | refine And.intro ?_ ?_)); done)) | refine RdN.intro _ rfl (by rfl) ?_); (conv => whnf))))
        refine ⟨⟨l', ob', cap', at', 0⟩, ⟨hat, hob'.1, hob'.2, hlen, ?_⟩, rfl, wkE_refl _, wkE_refl _, wkE_refl _, wkH_nil _⟩
        rw [hN, hgo2]
        exact ⟨rfl, hl', rfl⟩
end Go.Proofs.YtjkchonpnocffaaDoor

/-
  Contract: Hex (program).
-/
namespace Go.Proofs.YtjkchonpnocffaaDoor
open Go.AX Go.RowKit Go.Pack
set_option maxRecDepth 20000

def hexS16 : ByteArray := ⟨#[48, 49, 50, 51, 52, 53, 54, 55, 56, 57, 97, 98, 99, 100, 101, 102]⟩
theorem hexAtF : ∀ k : Fin 16, byteAt hexS16 k.val = ((hexC k.val).toNat : Int) := by decide +kernel
theorem hexAt (k : Nat) (h : k < 16) : byteAt hexS16 k = ((hexC k).toNat : Int) := hexAtF ⟨k, h⟩
theorem hex_app : ∀ (a b : List UInt8), hex (a ++ b) = hex a ++ hex b
  | [], _ => rfl
  | c :: a, b => by
    show hexC _ :: hexC _ :: hex (a ++ b) = _
    rw [hex_app a b]
    rfl
theorem hex_len : ∀ l : List UInt8, (hex l).length = 2 * l.length
  | [] => rfl
  | c :: l => by
    show (hex l).length + 1 + 1 = 2 * (l.length + 1)
    rw [hex_len l]
    omega
theorem Hex_c (s : List UInt8) (hs : s.length ≤ 1000000) : ∀ H, SpecH Tryd.prog 12 (pvs [.string (bs s)]) H (Ret (.string (bs (hex s))) H) := by
  refine pureC hm Tryd.func12 (by kernel_rfl) rfl rfl ?_
  ((conv => whnf); (repeat ((first | refine BoxN.own ?_ | refine RwN.own ?_ | refine VrN.norm (wrap_i64 (by omega)) ?_ | refine VrN.keep ?_ | refine DrawN.calm (by decide +kernel) ?_ | refine Nd.mk (by decide +kernel) ?_ | refine Nd.mk (by omega) ?_ | (refine Nd.mk ?_ ?_; focus ((repeat' (first | exact trivial | exact wkE_refl _ | refine And.intro ?_ ?_)); done)) | refine RdN.intro _ rfl (by rfl) ?_); (conv => whnf))))
  refine EffW.bytesOf (e := 5) s rfl Tryd.underlying9 (by kernel_rfl) (by kernel_rfl) rfl (by omega) fun lb lc h5 h6 => ?_
  ((conv => whnf); (repeat ((first | refine BoxN.own ?_ | refine RwN.own ?_ | refine VrN.norm (wrap_i64 (by omega)) ?_ | refine VrN.keep ?_ | refine DrawN.calm (by decide +kernel) ?_ | refine Nd.mk (by decide +kernel) ?_ | refine Nd.mk (by omega) ?_ | (refine Nd.mk ?_ ?_; focus ((repeat' (first | exact trivial | exact wkE_refl _ | refine And.intro ?_ ?_)); done)) | refine RdN.intro _ rfl (by rfl) ?_); (conv => whnf))))
  refine LoopN.intro (Nat × Bool × BSt) (fun ⟨j, u, i⟩ => j ≤ s.length ∧ i.ok (hex (s.take j)).length)
    (fun ⟨j, _, _⟩ => mkS Tryd.f12.ntmps 0 [(3, .c (.lp 0 0)), (7, .c (.v (.slice (some ⟨lb, 0, none⟩) s.length lc))), (8, .c (.v (.int .i64 (s.length : Int)))), (9, .c (.v (.int .i64 (j : Int))))])
    (fun ⟨j, u, i⟩ => [.blk 76 [bC u, .v (.slice (at0 i.ob) (hex (s.take j)).length i.cap)], own s lb lc, .app 5 1 (u8s (hex (s.take j))) (at0 i.ob) (hex (s.take j)).length i.cap]) (fun ⟨j, _, _⟩ => s.length - j) [.app 0 0 [] none 0 0] rfl
    (fun _ => rfl) (fun _ => rfl) (fun ⟨_, u, _⟩ _ => by cases u <;> exact okHB_eq rfl) ⟨(0, false, ⟨none, 0⟩), ⟨Nat.zero_le _, fun _ => ⟨rfl, rfl⟩, Nat.le_refl _, fun _ => rfl⟩, ?_, ?_⟩ ?_
  · (repeat' (first | exact trivial | refine And.intro (by with_reducible rfl) ?_ | (with_reducible exact wkC_refl _) | (with_reducible exact wkCs_refl _) | refine And.intro ?_ ?_))
    all_goals rfl
  · exact ⟨by (repeat' (first | exact trivial | exact wkE_refl _ | refine And.intro ?_ ?_)), wkE_refl _, wkE_nil, wkH_nil _⟩
  rintro ⟨j, u, i⟩ ⟨hj, hok⟩
  cases u with
  | true =>
    -- true: is the builder used
    ((conv => whnf); (repeat ((first | refine BoxN.own ?_ | refine RwN.own ?_ | refine VrN.norm (wrap_i64 (by omega)) ?_ | refine VrN.keep ?_ | refine DrawN.calm (by decide +kernel) ?_ | refine Nd.mk (by decide +kernel) ?_ | refine Nd.mk (by omega) ?_ | (refine Nd.mk ?_ ?_; focus ((repeat' (first | exact trivial | exact wkE_refl _ | refine And.intro ?_ ?_)); done)) | refine RdN.intro _ rfl (by rfl) ?_); (conv => whnf))))
    refine brd_dec (fun h1 => ?_) (fun h1 => ?_)
    · obtain ⟨c, hc⟩ : ∃ c, s[j]? = some c := ⟨_, List.getElem?_eq_getElem (by omega)⟩
      have hsn : s.take (j + 1) = s.take j ++ [c] := Pack.take_snoc hc
      have hcl := UInt8.toNat_lt c
      ((conv => whnf); (repeat ((first | refine BoxN.own ?_ | refine RwN.own ?_ | refine VrN.norm (wrap_i64 (by omega)) ?_ | refine VrN.keep ?_ | refine DrawN.calm (by decide +kernel) ?_ | refine Nd.mk (by decide +kernel) ?_ | refine Nd.mk (by omega) ?_ | (refine Nd.mk ?_ ?_; focus ((repeat' (first | exact trivial | exact wkE_refl _ | refine And.intro ?_ ?_)); done)) | refine RdN.intro _ rfl (by rfl) ?_); (conv => whnf))))
      refine Nd.mk ⟨rfl, by omega, by omega⟩ ?_
      ((conv => whnf); (repeat ((first | refine BoxN.own ?_ | refine RwN.own ?_ | refine VrN.norm (wrap_i64 (by omega)) ?_ | refine VrN.keep ?_ | refine DrawN.calm (by decide +kernel) ?_ | refine Nd.mk (by decide +kernel) ?_ | refine Nd.mk (by omega) ?_ | (refine Nd.mk ?_ ?_; focus ((repeat' (first | exact trivial | exact wkE_refl _ | refine And.intro ?_ ?_)); done)) | refine RdN.intro _ rfl (by rfl) ?_); (conv => whnf))))
      refine LdN.one (.int .u8 (c.toNat : Int)) rfl (fun w hw => hw.1) (by
        show (u8s s)[(j : Int).toNat * 1]? = _
        rw [Nat.mul_one, Int.toNat_natCast]
        exact u8s_at hc) ?_
      have hq : IntKind.u8.wrap ((c.toNat : Int).tdiv 16) = ((c.toNat / 16 : Nat) : Int) := by
        rw [show (c.toNat : Int).tdiv 16 = ((c.toNat / 16 : Nat) : Int) from (Int.ofNat_tdiv c.toNat 16).symm, wrap_u8 (by omega)]
      have hm : IntKind.u8.wrap ((c.toNat : Int).tmod 16) = ((c.toNat % 16 : Nat) : Int) := by
        rw [show (c.toNat : Int).tmod 16 = ((c.toNat % 16 : Nat) : Int) from (Int.ofNat_tmod c.toNat 16).symm, wrap_u8 (by omega)]
      have hm' : (c.toNat : Int).tmod 16 = ((c.toNat % 16 : Nat) : Int) := (Int.ofNat_tmod c.toNat 16).symm
      have hx1 : byteAt { data := #[48, 49, 50, 51, 52, 53, 54, 55, 56, 57, 97, 98, 99, 100, 101, 102] } (Int.toNat ((c.toNat / 16 : Nat) : Int)) = ((hexC (c.toNat / 16)).toNat : Int) := by
        rw [Int.toNat_natCast]
        exact hexAt _ (by omega)
      have hx2 : byteAt { data := #[48, 49, 50, 51, 52, 53, 54, 55, 56, 57, 97, 98, 99, 100, 101, 102] } (Int.toNat ((c.toNat % 16 : Nat) : Int)) = ((hexC (c.toNat % 16)).toNat : Int) := by
        rw [Int.toNat_natCast]
        exact hexAt _ (by omega)
      have hhl : (hex (s.take j)).length ≤ 2000000 := by rw [hex_len, List.length_take]; omega
      ((conv => whnf); (repeat ((first | refine BoxN.own ?_ | refine RwN.own ?_ | refine VrN.norm (wrap_i64 (by omega)) ?_ | refine VrN.keep ?_ | refine DrawN.calm (by decide +kernel) ?_ | refine Nd.mk (by decide +kernel) ?_ | refine Nd.mk (by omega) ?_ | (refine Nd.mk ?_ ?_; focus ((repeat' (first | exact trivial | exact wkE_refl _ | refine And.intro ?_ ?_)); done)) | refine RdN.intro _ rfl (by rfl) ?_); (conv => whnf))))
      rw [hq]
      refine Nd.mk ⟨by omega, by show _ < (16 : Int); omega⟩ ?_
      ((conv => whnf); (repeat ((first | refine BoxN.own ?_ | refine RwN.own ?_ | refine VrN.norm (wrap_i64 (by omega)) ?_ | refine VrN.keep ?_ | refine DrawN.calm (by decide +kernel) ?_ | refine Nd.mk (by decide +kernel) ?_ | refine Nd.mk (by omega) ?_ | (refine Nd.mk ?_ ?_; focus ((repeat' (first | exact trivial | exact wkE_refl _ | refine And.intro ?_ ?_)); done)) | refine RdN.intro _ rfl (by rfl) ?_); (conv => whnf))))
      rw [hx1]
      refine callG (WriteByte_c true (hex (s.take j)) (hexC (c.toNat / 16)) i (by omega)) [0, 2] rfl ⟨rfl, rfl, trivial⟩ rfl fun i1 hi1 => ?_
      ((conv => whnf); (repeat ((first | refine BoxN.own ?_ | refine RwN.own ?_ | refine VrN.norm (wrap_i64 (by omega)) ?_ | refine VrN.keep ?_ | refine DrawN.calm (by decide +kernel) ?_ | refine Nd.mk (by decide +kernel) ?_ | refine Nd.mk (by omega) ?_ | (refine Nd.mk ?_ ?_; focus ((repeat' (first | exact trivial | exact wkE_refl _ | refine And.intro ?_ ?_)); done)) | refine RdN.intro _ rfl (by rfl) ?_); (conv => whnf))))
      first | rw [hm] | rw [hm']
      refine Nd.mk ⟨by omega, by show _ < (16 : Int); omega⟩ ?_
      ((conv => whnf); (repeat ((first | refine BoxN.own ?_ | refine RwN.own ?_ | refine VrN.norm (wrap_i64 (by omega)) ?_ | refine VrN.keep ?_ | refine DrawN.calm (by decide +kernel) ?_ | refine Nd.mk (by decide +kernel) ?_ | refine Nd.mk (by omega) ?_ | (refine Nd.mk ?_ ?_; focus ((repeat' (first | exact trivial | exact wkE_refl _ | refine And.intro ?_ ?_)); done)) | refine RdN.intro _ rfl (by rfl) ?_); (conv => whnf))))
      rw [hx2]
      refine callG (WriteByte_c true (hex (s.take j) ++ [hexC (c.toNat / 16)]) (hexC (c.toNat % 16)) i1 (by rw [List.length_append]; show _ + 1 + 1 ≤ _; omega)) [0, 2] rfl ⟨rfl, rfl, trivial⟩ rfl fun i2 hi2 => ?_
      have hnx : hex (s.take j) ++ [hexC (c.toNat / 16)] ++ [hexC (c.toNat % 16)] = hex (s.take (j + 1)) := by rw [hsn, hex_app, List.append_assoc]; rfl
      rw [hnx] at hi2 ⊢
      ((conv => whnf); (repeat ((first | refine BoxN.own ?_ | refine RwN.own ?_ | refine VrN.norm (wrap_i64 (by omega)) ?_ | refine VrN.keep ?_ | refine DrawN.calm (by decide +kernel) ?_ | refine Nd.mk (by decide +kernel) ?_ | refine Nd.mk (by omega) ?_ | (refine Nd.mk ?_ ?_; focus ((repeat' (first | exact trivial | exact wkE_refl _ | refine And.intro ?_ ?_)); done)) | refine RdN.intro _ rfl (by rfl) ?_); (conv => whnf))))
      refine ⟨(j + 1, true, i2), ⟨by omega, hi2⟩, by show s.length - (j + 1) < s.length - j; omega, ?_, ?_⟩
      · (repeat' (first | exact trivial | refine And.intro (by with_reducible rfl) ?_ | (with_reducible exact wkC_refl _) | (with_reducible exact wkCs_refl _) | refine And.intro ?_ ?_))
        all_goals first | rfl | exact av_int (by rw [wrap_i64 (by omega)]; omega)
      · exact ⟨wkE_refl _, wkE_refl _, wkE_refl _, wkH_nil _⟩
    · have hjl : j = s.length := by omega
      ((conv => whnf); (repeat ((first | refine BoxN.own ?_ | refine RwN.own ?_ | refine VrN.norm (wrap_i64 (by omega)) ?_ | refine VrN.keep ?_ | refine DrawN.calm (by decide +kernel) ?_ | refine Nd.mk (by decide +kernel) ?_ | refine Nd.mk (by omega) ?_ | (refine Nd.mk ?_ ?_; focus ((repeat' (first | exact trivial | exact wkE_refl _ | refine And.intro ?_ ?_)); done)) | refine RdN.intro _ rfl (by rfl) ?_); (conv => whnf))))
      refine callG (BString_c true (hex (s.take j)) i hok) [0, 2] rfl ⟨rfl, rfl, trivial⟩ rfl fun _ _ => ?_
      ((conv => whnf); (repeat ((first | refine BoxN.own ?_ | refine RwN.own ?_ | refine VrN.norm (wrap_i64 (by omega)) ?_ | refine VrN.keep ?_ | refine DrawN.calm (by decide +kernel) ?_ | refine Nd.mk (by decide +kernel) ?_ | refine Nd.mk (by omega) ?_ | (refine Nd.mk ?_ ?_; focus ((repeat' (first | exact trivial | exact wkE_refl _ | refine And.intro ?_ ?_)); done)) | refine RdN.intro _ rfl (by rfl) ?_); (conv => whnf))))
      rw [hjl, List.take_length]
  | false =>
    -- false: is the builder used
    ((conv => whnf); (repeat ((first | refine BoxN.own ?_ | refine RwN.own ?_ | refine VrN.norm (wrap_i64 (by omega)) ?_ | refine VrN.keep ?_ | refine DrawN.calm (by decide +kernel) ?_ | refine Nd.mk (by decide +kernel) ?_ | refine Nd.mk (by omega) ?_ | (refine Nd.mk ?_ ?_; focus ((repeat' (first | exact trivial | exact wkE_refl _ | refine And.intro ?_ ?_)); done)) | refine RdN.intro _ rfl (by rfl) ?_); (conv => whnf))))
    refine brd_dec (fun h1 => ?_) (fun h1 => ?_)
    · obtain ⟨c, hc⟩ : ∃ c, s[j]? = some c := ⟨_, List.getElem?_eq_getElem (by omega)⟩
      have hsn : s.take (j + 1) = s.take j ++ [c] := Pack.take_snoc hc
      have hcl := UInt8.toNat_lt c
      ((conv => whnf); (repeat ((first | refine BoxN.own ?_ | refine RwN.own ?_ | refine VrN.norm (wrap_i64 (by omega)) ?_ | refine VrN.keep ?_ | refine DrawN.calm (by decide +kernel) ?_ | refine Nd.mk (by decide +kernel) ?_ | refine Nd.mk (by omega) ?_ | (refine Nd.mk ?_ ?_; focus ((repeat' (first | exact trivial | exact wkE_refl _ | refine And.intro ?_ ?_)); done)) | refine RdN.intro _ rfl (by rfl) ?_); (conv => whnf))))
      refine Nd.mk ⟨rfl, by omega, by omega⟩ ?_
      ((conv => whnf); (repeat ((first | refine BoxN.own ?_ | refine RwN.own ?_ | refine VrN.norm (wrap_i64 (by omega)) ?_ | refine VrN.keep ?_ | refine DrawN.calm (by decide +kernel) ?_ | refine Nd.mk (by decide +kernel) ?_ | refine Nd.mk (by omega) ?_ | (refine Nd.mk ?_ ?_; focus ((repeat' (first | exact trivial | exact wkE_refl _ | refine And.intro ?_ ?_)); done)) | refine RdN.intro _ rfl (by rfl) ?_); (conv => whnf))))
      refine LdN.one (.int .u8 (c.toNat : Int)) rfl (fun w hw => hw.1) (by
        show (u8s s)[(j : Int).toNat * 1]? = _
        rw [Nat.mul_one, Int.toNat_natCast]
        exact u8s_at hc) ?_
      have hq : IntKind.u8.wrap ((c.toNat : Int).tdiv 16) = ((c.toNat / 16 : Nat) : Int) := by
        rw [show (c.toNat : Int).tdiv 16 = ((c.toNat / 16 : Nat) : Int) from (Int.ofNat_tdiv c.toNat 16).symm, wrap_u8 (by omega)]
      have hm : IntKind.u8.wrap ((c.toNat : Int).tmod 16) = ((c.toNat % 16 : Nat) : Int) := by
        rw [show (c.toNat : Int).tmod 16 = ((c.toNat % 16 : Nat) : Int) from (Int.ofNat_tmod c.toNat 16).symm, wrap_u8 (by omega)]
      have hm' : (c.toNat : Int).tmod 16 = ((c.toNat % 16 : Nat) : Int) := (Int.ofNat_tmod c.toNat 16).symm
      have hx1 : byteAt { data := #[48, 49, 50, 51, 52, 53, 54, 55, 56, 57, 97, 98, 99, 100, 101, 102] } (Int.toNat ((c.toNat / 16 : Nat) : Int)) = ((hexC (c.toNat / 16)).toNat : Int) := by
        rw [Int.toNat_natCast]
        exact hexAt _ (by omega)
      have hx2 : byteAt { data := #[48, 49, 50, 51, 52, 53, 54, 55, 56, 57, 97, 98, 99, 100, 101, 102] } (Int.toNat ((c.toNat % 16 : Nat) : Int)) = ((hexC (c.toNat % 16)).toNat : Int) := by
        rw [Int.toNat_natCast]
        exact hexAt _ (by omega)
      have hhl : (hex (s.take j)).length ≤ 2000000 := by rw [hex_len, List.length_take]; omega
      ((conv => whnf); (repeat ((first | refine BoxN.own ?_ | refine RwN.own ?_ | refine VrN.norm (wrap_i64 (by omega)) ?_ | refine VrN.keep ?_ | refine DrawN.calm (by decide +kernel) ?_ | refine Nd.mk (by decide +kernel) ?_ | refine Nd.mk (by omega) ?_ | (refine Nd.mk ?_ ?_; focus ((repeat' (first | exact trivial | exact wkE_refl _ | refine And.intro ?_ ?_)); done)) | refine RdN.intro _ rfl (by rfl) ?_); (conv => whnf))))
      rw [hq]
      refine Nd.mk ⟨by omega, by show _ < (16 : Int); omega⟩ ?_
      ((conv => whnf); (repeat ((first | refine BoxN.own ?_ | refine RwN.own ?_ | refine VrN.norm (wrap_i64 (by omega)) ?_ | refine VrN.keep ?_ | refine DrawN.calm (by decide +kernel) ?_ | refine Nd.mk (by decide +kernel) ?_ | refine Nd.mk (by omega) ?_ | (refine Nd.mk ?_ ?_; focus ((repeat' (first | exact trivial | exact wkE_refl _ | refine And.intro ?_ ?_)); done)) | refine RdN.intro _ rfl (by rfl) ?_); (conv => whnf))))
      rw [hx1]
      refine callG (WriteByte_c false (hex (s.take j)) (hexC (c.toNat / 16)) i (by omega)) [0, 2] rfl ⟨rfl, rfl, trivial⟩ rfl fun i1 hi1 => ?_
      ((conv => whnf); (repeat ((first | refine BoxN.own ?_ | refine RwN.own ?_ | refine VrN.norm (wrap_i64 (by omega)) ?_ | refine VrN.keep ?_ | refine DrawN.calm (by decide +kernel) ?_ | refine Nd.mk (by decide +kernel) ?_ | refine Nd.mk (by omega) ?_ | (refine Nd.mk ?_ ?_; focus ((repeat' (first | exact trivial | exact wkE_refl _ | refine And.intro ?_ ?_)); done)) | refine RdN.intro _ rfl (by rfl) ?_); (conv => whnf))))
      first | rw [hm] | rw [hm']
      refine Nd.mk ⟨by omega, by show _ < (16 : Int); omega⟩ ?_
      ((conv => whnf); (repeat ((first | refine BoxN.own ?_ | refine RwN.own ?_ | refine VrN.norm (wrap_i64 (by omega)) ?_ | refine VrN.keep ?_ | refine DrawN.calm (by decide +kernel) ?_ | refine Nd.mk (by decide +kernel) ?_ | refine Nd.mk (by omega) ?_ | (refine Nd.mk ?_ ?_; focus ((repeat' (first | exact trivial | exact wkE_refl _ | refine And.intro ?_ ?_)); done)) | refine RdN.intro _ rfl (by rfl) ?_); (conv => whnf))))
      rw [hx2]
      refine callG (WriteByte_c true (hex (s.take j) ++ [hexC (c.toNat / 16)]) (hexC (c.toNat % 16)) i1 (by rw [List.length_append]; show _ + 1 + 1 ≤ _; omega)) [0, 2] rfl ⟨rfl, rfl, trivial⟩ rfl fun i2 hi2 => ?_
      have hnx : hex (s.take j) ++ [hexC (c.toNat / 16)] ++ [hexC (c.toNat % 16)] = hex (s.take (j + 1)) := by rw [hsn, hex_app, List.append_assoc]; rfl
      rw [hnx] at hi2 ⊢
      ((conv => whnf); (repeat ((first | refine BoxN.own ?_ | refine RwN.own ?_ | refine VrN.norm (wrap_i64 (by omega)) ?_ | refine VrN.keep ?_ | refine DrawN.calm (by decide +kernel) ?_ | refine Nd.mk (by decide +kernel) ?_ | refine Nd.mk (by omega) ?_ | (refine Nd.mk ?_ ?_; focus ((repeat' (first | exact trivial | exact wkE_refl _ | refine And.intro ?_ ?_)); done)) | refine RdN.intro _ rfl (by rfl) ?_); (conv => whnf))))
      refine ⟨(j + 1, true, i2), ⟨by omega, hi2⟩, by show s.length - (j + 1) < s.length - j; omega, ?_, ?_⟩
      · (repeat' (first | exact trivial | refine And.intro (by with_reducible rfl) ?_ | (with_reducible exact wkC_refl _) | (with_reducible exact wkCs_refl _) | refine And.intro ?_ ?_))
        all_goals first | rfl | exact av_int (by rw [wrap_i64 (by omega)]; omega)
      · exact ⟨wkE_refl _, wkE_refl _, wkE_refl _, wkH_nil _⟩
    · have hjl : j = s.length := by omega
      ((conv => whnf); (repeat ((first | refine BoxN.own ?_ | refine RwN.own ?_ | refine VrN.norm (wrap_i64 (by omega)) ?_ | refine VrN.keep ?_ | refine DrawN.calm (by decide +kernel) ?_ | refine Nd.mk (by decide +kernel) ?_ | refine Nd.mk (by omega) ?_ | (refine Nd.mk ?_ ?_; focus ((repeat' (first | exact trivial | exact wkE_refl _ | refine And.intro ?_ ?_)); done)) | refine RdN.intro _ rfl (by rfl) ?_); (conv => whnf))))
      refine callG (BString_c false (hex (s.take j)) i hok) [0, 2] rfl ⟨rfl, rfl, trivial⟩ rfl fun _ _ => ?_
      ((conv => whnf); (repeat ((first | refine BoxN.own ?_ | refine RwN.own ?_ | refine VrN.norm (wrap_i64 (by omega)) ?_ | refine VrN.keep ?_ | refine DrawN.calm (by decide +kernel) ?_ | refine Nd.mk (by decide +kernel) ?_ | refine Nd.mk (by omega) ?_ | (refine Nd.mk ?_ ?_; focus ((repeat' (first | exact trivial | exact wkE_refl _ | refine And.intro ?_ ?_)); done)) | refine RdN.intro _ rfl (by rfl) ?_); (conv => whnf))))
      rw [hjl, List.take_length]
end Go.Proofs.YtjkchonpnocffaaDoor

/-
  Contracts: a text is read (program).
-/
namespace Go.Proofs.YtjkchonpnocffaaDoor
open Go.AX Go.RowKit Go.Pack
set_option maxRecDepth 20000

/-! ### Blanks and zeros are trimmed -/
def zB (c : UInt8) : Bool := c == 32 || c == 0
def zTab : List Value := (List.range 256).map fun i => .bool (i == 32 || i == 0)
theorem zTab_ok : TabB zTab zB := fun c => by
  have hc := c.toNat_lt
  unfold zTab zB
  rw [List.getElem?_map, List.getElem?_range (by omega)]
  simp only [Option.map_some, Option.some.injEq, Value.bool.injEq]
  have h1 : (c.toNat == 32) = (c == 32) := by
    rw [Bool.eq_iff_iff, beq_iff_eq, beq_iff_eq]
    exact ⟨fun h => UInt8.toNat_inj.1 h, fun h => by rw [h]; rfl⟩
  have h2 : (c.toNat == 0) = (c == 0) := by
    rw [Bool.eq_iff_iff, beq_iff_eq, beq_iff_eq]
    exact ⟨fun h => UInt8.toNat_inj.1 h, fun h => by rw [h]; rfl⟩
  rw [h1, h2]
theorem setCells_z : (Lib.setCells [32, 0]).toList = zTab := by kernel_rfl
theorem setCells_z' : Lib.setCells [32, 0] = zTab.toArray := by apply Array.ext'; rw [setCells_z]
theorem makeZ_c : ∀ H, SpecH Tryd.prog 74 (pvs [.string (bs [32, 0])]) H (Ret (.tuple #[.agg zTab.toArray, .bool true]) H) := fun H =>
  SpecH.rawP (R := fun r => r = .tuple #[.agg zTab.toArray, .bool true]) (callOk Tryd.func74 (by kernel_rfl) rfl)
    (fun w _ => (Tryd.strings_makeASCIISet (fun w => by obtain ⟨i, hi, hz⟩ := Option.map_eq_some_iff.1 zero_set; exact run_zeroValue hi hz w) (bs [32, 0]) w (by decide) (by
      intro j b hj
      rw [bs_list] at hj
      match j, hj with
      | 0, hj => cases hj; decide
      | 1, hj => cases hj; decide)).mono fun e w' ⟨he, hw⟩ => ⟨_, he, by rw [bs_list, setCells_z'], by subst hw; exact (Below.refl _ w).alloc (Nat.le_refl _) _⟩) fun r hr => by subst hr; exact ⟨rfl, rfl⟩
theorem TrimZ_c (s : List UInt8) (hs : s.length ≤ 1000000000) : ∀ H, SpecH Tryd.prog 55 (pvs [.string (bs s), .string (bs [32, 0])]) H (Ret (.string (bs (trimA s))) H) := by
  refine pureC hm Tryd.func55 (by kernel_rfl) rfl rfl ?_
  ((conv => whnf); (repeat ((first | refine BoxN.own ?_ | refine RwN.own ?_ | refine VrN.norm (wrap_i64 (by omega)) ?_ | refine VrN.keep ?_ | refine DrawN.calm (by decide +kernel) ?_ | refine Nd.mk (by decide +kernel) ?_ | refine Nd.mk (by omega) ?_ | (refine Nd.mk ?_ ?_; focus ((repeat' (first | exact trivial | exact wkE_refl _ | refine And.intro ?_ ?_)); done)) | refine RdN.intro _ rfl (by rfl) ?_); (conv => whnf))))
  rw [bs_list]
  refine brd_intro (fun h => ?_) (fun h => ?_)
  · have : s = [] := by simpa using h
    subst this
    ((conv => whnf); (repeat ((first | refine BoxN.own ?_ | refine RwN.own ?_ | refine VrN.norm (wrap_i64 (by omega)) ?_ | refine VrN.keep ?_ | refine DrawN.calm (by decide +kernel) ?_ | refine Nd.mk (by decide +kernel) ?_ | refine Nd.mk (by omega) ?_ | (refine Nd.mk ?_ ?_; focus ((repeat' (first | exact trivial | exact wkE_refl _ | refine And.intro ?_ ?_)); done)) | refine RdN.intro _ rfl (by rfl) ?_); (conv => whnf))))
    rfl
  · ((conv => whnf); (repeat ((first | refine BoxN.own ?_ | refine RwN.own ?_ | refine VrN.norm (wrap_i64 (by omega)) ?_ | refine VrN.keep ?_ | refine DrawN.calm (by decide +kernel) ?_ | refine Nd.mk (by decide +kernel) ?_ | refine Nd.mk (by omega) ?_ | (refine Nd.mk ?_ ?_; focus ((repeat' (first | exact trivial | exact wkE_refl _ | refine And.intro ?_ ?_)); done)) | refine RdN.intro _ rfl (by rfl) ?_); (conv => whnf))))
    refine call1 (makeZ_c _) ?_
    ((conv => whnf); (repeat ((first | refine BoxN.own ?_ | refine RwN.own ?_ | refine VrN.norm (wrap_i64 (by omega)) ?_ | refine VrN.keep ?_ | refine DrawN.calm (by decide +kernel) ?_ | refine Nd.mk (by decide +kernel) ?_ | refine Nd.mk (by omega) ?_ | (refine Nd.mk ?_ ?_; focus ((repeat' (first | exact trivial | exact wkE_refl _ | refine And.intro ?_ ?_)); done)) | refine RdN.intro _ rfl (by rfl) ?_); (conv => whnf))))
    refine callG (trimRightASCII_c _ zTab zB zTab_ok s hs) [0] rfl ⟨rfl, trivial⟩ rfl fun _ _ => ?_
    ((conv => whnf); (repeat ((first | refine BoxN.own ?_ | refine RwN.own ?_ | refine VrN.norm (wrap_i64 (by omega)) ?_ | refine VrN.keep ?_ | refine DrawN.calm (by decide +kernel) ?_ | refine Nd.mk (by decide +kernel) ?_ | refine Nd.mk (by omega) ?_ | (refine Nd.mk ?_ ?_; focus ((repeat' (first | exact trivial | exact wkE_refl _ | refine And.intro ?_ ?_)); done)) | refine RdN.intro _ rfl (by rfl) ?_); (conv => whnf))))
    rfl
/-! ### The first zero -/
theorem index0 (l : List UInt8) : Lib.indexByte l 0 = if l.contains 0 then ((l.takeWhile (· != 0)).length : Int) else -1 := by
  induction l with
  | nil => rfl
  | cons a r ih =>
    unfold Lib.indexByte
    by_cases h : a = 0
    · subst h
      simp
    · rw [if_neg (by simpa using h), ih, List.takeWhile_cons_of_pos (by simpa using h)]
      have hc : (a :: r).contains 0 = r.contains 0 := by
        rw [List.contains_cons]
        rw [show ((0 : UInt8) == a) = false from beq_eq_false_iff_ne.2 (Ne.symm h), Bool.false_or]
      rw [hc]
      cases r.contains 0 with
      | false => simp
      | true =>
        simp only [if_true]
        rw [if_neg (by simp)]
        simp
theorem take0 (l : List UInt8) : l.take (l.takeWhile (· != 0)).length = l.takeWhile (· != 0) := by
  induction l with
  | nil => rfl
  | cons a r ih =>
    by_cases h : a = 0
    · subst h; rfl
    · rw [List.takeWhile_cons_of_pos (by simpa using h), List.length_cons, List.take_succ_cons, ih]
theorem index1 (l : List UInt8) : Lib.index l [0] = Lib.indexByte l 0 := by
  induction l with
  | nil => rfl
  | cons a r ih =>
    unfold Lib.index Lib.indexByte
    rw [ih]
    by_cases h : a = 0
    · subst h; rfl
    · rw [if_neg (show ¬ [0].isPrefixOf (a :: r) = true by simp [List.isPrefixOf]; exact fun h2 => h h2.symm), if_neg (show ¬ (a == 0) = true by simpa using h)]
theorem takeW0 {l : List UInt8} (h : (0 : UInt8) ∉ l) : l.takeWhile (· != 0) = l := by
  induction l with
  | nil => rfl
  | cons b l ih =>
    simp at h
    simp [show ¬ b = 0 from fun e => h.1 e.symm, ih h.2]
theorem cut0 (l : List UInt8) : (Lib.cut l [0]).1 = l.takeWhile (· != 0) := by
  unfold Lib.cut
  rw [index1, index0]
  by_cases h : l.contains 0 = true
  · rw [if_pos h, if_pos (by omega), Int.toNat_natCast]
    exact take0 l
  · rw [if_neg h, if_neg (by decide)]
    have h0 : (0 : UInt8) ∉ l := fun h2 => h (by simpa using h2)
    exact (takeW0 h0).symm
end Go.Proofs.YtjkchonpnocffaaDoor

/-
  Contracts: hex digits and texts are read (program).
-/
namespace Go.Proofs.YtjkchonpnocffaaDoor
open Go.AX Go.RowKit Go.Pack
set_option maxRecDepth 20000

theorem hexu_c (ub : Nat) (s : List UInt8) (a : Nat) (out : Option Nat) (len cap : Nat) (n : Int) (m : Nat) (hn : n = -1 ∧ m = 2 * (s.length - a) ∨ n = (m : Int) ∧ m ≤ 1000) (ha : a ≤ s.length) (hs : s.length ≤ 1000000) :
    SpecH Tryd.prog 53 [.c (.v (.pointer (some ⟨ub, 0, none⟩))), .c (.v (.int .i64 n))] [unE ub s a out len cap]
      (RetG (ι := Unit) (fun _ => True) (fun _ => .string (bs ((hex ((s.drop a).take ((m + 1) / 2))).take m))) fun _ => [unE ub s (a + ((s.drop a).take ((m + 1) / 2)).length) out len cap]) := by
  refine ownC hm Tryd.func53 (by kernel_rfl) rfl rfl (fun _ _ => okHB_eq rfl) (fun _ _ => Nat.le_refl _) ?_
  obtain ⟨b, hb⟩ : ∃ b, (s.drop a).take ((m + 1) / 2) = b := ⟨_, rfl⟩
  have hbl : b.length = min ((m + 1) / 2) (s.length - a) := by rw [← hb, List.length_take, List.length_drop]
  have hbt : (s.drop a).take b.length = b := by rw [hbl, ← hb, ← List.length_drop, ← List.take_eq_take_min]
  rw [hb]
  ((conv => whnf); (repeat ((first | refine BoxN.own ?_ | refine RwN.own ?_ | refine VrN.norm (wrap_i64 (by omega)) ?_ | refine VrN.keep ?_ | refine DrawN.calm (by decide +kernel) ?_ | refine Nd.mk (by decide +kernel) ?_ | refine Nd.mk (by omega) ?_ | (refine Nd.mk ?_ ?_; focus ((repeat' (first | exact trivial | exact wkE_refl _ | refine And.intro ?_ ?_)); done)) | refine RdN.intro _ rfl (by rfl) ?_); (conv => whnf))))
  refine brd_eq (fun h1 => ?_) (fun h1 => ?_)
  · have hm2 : m = 2 * (s.length - a) := by omega
    ((conv => whnf); (repeat ((first | refine BoxN.own ?_ | refine RwN.own ?_ | refine VrN.norm (wrap_i64 (by omega)) ?_ | refine VrN.keep ?_ | refine DrawN.calm (by decide +kernel) ?_ | refine Nd.mk (by decide +kernel) ?_ | refine Nd.mk (by omega) ?_ | (refine Nd.mk ?_ ?_; focus ((repeat' (first | exact trivial | exact wkE_refl _ | refine And.intro ?_ ?_)); done)) | refine RdN.intro _ rfl (by rfl) ?_); (conv => whnf))))
    refine call1 (left_c ub s a out len cap ha hs _ (fun w hw => hw.1)) ?_
    have hnm : (2 : Int) * ((s.length - a : Nat) : Int) = (m : Int) := by omega
    -- (2 * ((s.length - a : Nat) : Int)): the digits as the number is spelled
    ((conv => whnf); (repeat ((first | refine BoxN.own ?_ | refine RwN.own ?_ | refine VrN.norm (wrap_i64 (by omega)) ?_ | refine VrN.keep ?_ | refine DrawN.calm (by decide +kernel) ?_ | refine Nd.mk (by decide +kernel) ?_ | refine Nd.mk (by omega) ?_ | (refine Nd.mk ?_ ?_; focus ((repeat' (first | exact trivial | exact wkE_refl _ | refine And.intro ?_ ?_)); done)) | refine RdN.intro _ rfl (by rfl) ?_); (conv => whnf))))
    refine call1 (left_c ub s a out len cap ha hs _ (fun w hw => hw.1)) ?_
    ((conv => whnf); (repeat ((first | refine BoxN.own ?_ | refine RwN.own ?_ | refine VrN.norm (wrap_i64 (by omega)) ?_ | refine VrN.keep ?_ | refine DrawN.calm (by decide +kernel) ?_ | refine Nd.mk (by decide +kernel) ?_ | refine Nd.mk (by omega) ?_ | (refine Nd.mk ?_ ?_; focus ((repeat' (first | exact trivial | exact wkE_refl _ | refine And.intro ?_ ?_)); done)) | refine RdN.intro _ rfl (by rfl) ?_); (conv => whnf))))
    have hmin : minI (IntKind.i64.wrap (Int.tdiv (IntKind.i64.wrap ((2 * ((s.length - a : Nat) : Int)) + 1)) 2)) ((s.length - a : Nat) : Int) = ((b.length : Nat) : Int) := by
      rw [wrap_i64 (x := (2 * ((s.length - a : Nat) : Int)) + 1) (by omega), show Int.tdiv ((2 * ((s.length - a : Nat) : Int)) + 1) 2 = (((m + 1) / 2 : Nat) : Int) by rw [hnm]; exact (Int.ofNat_tdiv (m + 1) 2).symm, wrap_i64 (by omega), hbl]
      unfold minI
      split <;> omega
    rw [hmin]
    refine callG (cut_c ub s a b.length out len cap (by omega) hs) [0] rfl ⟨rfl, trivial⟩ rfl fun _ _ => ?_
    rw [hbt]
    ((conv => whnf); (repeat ((first | refine BoxN.own ?_ | refine RwN.own ?_ | refine VrN.norm (wrap_i64 (by omega)) ?_ | refine VrN.keep ?_ | refine DrawN.calm (by decide +kernel) ?_ | refine Nd.mk (by decide +kernel) ?_ | refine Nd.mk (by omega) ?_ | (refine Nd.mk ?_ ?_; focus ((repeat' (first | exact trivial | exact wkE_refl _ | refine And.intro ?_ ?_)); done)) | refine RdN.intro _ rfl (by rfl) ?_); (conv => whnf))))
    refine call1 (Hex_c b (by omega) _) ?_
    ((conv => whnf); (repeat ((first | refine BoxN.own ?_ | refine RwN.own ?_ | refine VrN.norm (wrap_i64 (by omega)) ?_ | refine VrN.keep ?_ | refine DrawN.calm (by decide +kernel) ?_ | refine Nd.mk (by decide +kernel) ?_ | refine Nd.mk (by omega) ?_ | (refine Nd.mk ?_ ?_; focus ((repeat' (first | exact trivial | exact wkE_refl _ | refine And.intro ?_ ?_)); done)) | refine RdN.intro _ rfl (by rfl) ?_); (conv => whnf))))
    refine ReadW.sl_h (min m (hex b).length) rfl Tryd.underlying9 rfl rfl ⟨by rw [bs_size]; unfold minI; split <;> omega, Nat.min_le_right _ _⟩ ?_
    rw [← List.take_eq_take_min]
    ((conv => whnf); (repeat ((first | refine BoxN.own ?_ | refine RwN.own ?_ | refine VrN.norm (wrap_i64 (by omega)) ?_ | refine VrN.keep ?_ | refine DrawN.calm (by decide +kernel) ?_ | refine Nd.mk (by decide +kernel) ?_ | refine Nd.mk (by omega) ?_ | (refine Nd.mk ?_ ?_; focus ((repeat' (first | exact trivial | exact wkE_refl _ | refine And.intro ?_ ?_)); done)) | refine RdN.intro _ rfl (by rfl) ?_); (conv => whnf))))
    exact ⟨(), trivial, rfl, wkE_refl _, wkH_nil _⟩
  · have hnm : n = (m : Int) := by omega
    -- n: the digits as the number is spelled
    ((conv => whnf); (repeat ((first | refine BoxN.own ?_ | refine RwN.own ?_ | refine VrN.norm (wrap_i64 (by omega)) ?_ | refine VrN.keep ?_ | refine DrawN.calm (by decide +kernel) ?_ | refine Nd.mk (by decide +kernel) ?_ | refine Nd.mk (by omega) ?_ | (refine Nd.mk ?_ ?_; focus ((repeat' (first | exact trivial | exact wkE_refl _ | refine And.intro ?_ ?_)); done)) | refine RdN.intro _ rfl (by rfl) ?_); (conv => whnf))))
    refine call1 (left_c ub s a out len cap ha hs _ (fun w hw => hw.1)) ?_
    ((conv => whnf); (repeat ((first | refine BoxN.own ?_ | refine RwN.own ?_ | refine VrN.norm (wrap_i64 (by omega)) ?_ | refine VrN.keep ?_ | refine DrawN.calm (by decide +kernel) ?_ | refine Nd.mk (by decide +kernel) ?_ | refine Nd.mk (by omega) ?_ | (refine Nd.mk ?_ ?_; focus ((repeat' (first | exact trivial | exact wkE_refl _ | refine And.intro ?_ ?_)); done)) | refine RdN.intro _ rfl (by rfl) ?_); (conv => whnf))))
    have hmin : minI (IntKind.i64.wrap (Int.tdiv (IntKind.i64.wrap (n + 1)) 2)) ((s.length - a : Nat) : Int) = ((b.length : Nat) : Int) := by
      rw [wrap_i64 (x := n + 1) (by omega), show Int.tdiv (n + 1) 2 = (((m + 1) / 2 : Nat) : Int) by rw [hnm]; exact (Int.ofNat_tdiv (m + 1) 2).symm, wrap_i64 (by omega), hbl]
      unfold minI
      split <;> omega
    rw [hmin]
    refine callG (cut_c ub s a b.length out len cap (by omega) hs) [0] rfl ⟨rfl, trivial⟩ rfl fun _ _ => ?_
    rw [hbt]
    ((conv => whnf); (repeat ((first | refine BoxN.own ?_ | refine RwN.own ?_ | refine VrN.norm (wrap_i64 (by omega)) ?_ | refine VrN.keep ?_ | refine DrawN.calm (by decide +kernel) ?_ | refine Nd.mk (by decide +kernel) ?_ | refine Nd.mk (by omega) ?_ | (refine Nd.mk ?_ ?_; focus ((repeat' (first | exact trivial | exact wkE_refl _ | refine And.intro ?_ ?_)); done)) | refine RdN.intro _ rfl (by rfl) ?_); (conv => whnf))))
    refine call1 (Hex_c b (by omega) _) ?_
    ((conv => whnf); (repeat ((first | refine BoxN.own ?_ | refine RwN.own ?_ | refine VrN.norm (wrap_i64 (by omega)) ?_ | refine VrN.keep ?_ | refine DrawN.calm (by decide +kernel) ?_ | refine Nd.mk (by decide +kernel) ?_ | refine Nd.mk (by omega) ?_ | (refine Nd.mk ?_ ?_; focus ((repeat' (first | exact trivial | exact wkE_refl _ | refine And.intro ?_ ?_)); done)) | refine RdN.intro _ rfl (by rfl) ?_); (conv => whnf))))
    refine ReadW.sl_h (min m (hex b).length) rfl Tryd.underlying9 rfl rfl ⟨by rw [bs_size]; unfold minI; split <;> omega, Nat.min_le_right _ _⟩ ?_
    rw [← List.take_eq_take_min]
    ((conv => whnf); (repeat ((first | refine BoxN.own ?_ | refine RwN.own ?_ | refine VrN.norm (wrap_i64 (by omega)) ?_ | refine VrN.keep ?_ | refine DrawN.calm (by decide +kernel) ?_ | refine Nd.mk (by decide +kernel) ?_ | refine Nd.mk (by omega) ?_ | (refine Nd.mk ?_ ?_; focus ((repeat' (first | exact trivial | exact wkE_refl _ | refine And.intro ?_ ?_)); done)) | refine RdN.intro _ rfl (by rfl) ?_); (conv => whnf))))
    exact ⟨(), trivial, rfl, wkE_refl _, wkH_nil _⟩
theorem tw_lt {l : List UInt8} (h : l.contains 0 = true) : (l.takeWhile (· != 0)).length + 1 ≤ l.length := by
  induction l with
  | nil => cases h
  | cons a r ih =>
    by_cases ha : a = 0
    · subst ha; simp
    · rw [List.takeWhile_cons_of_pos (by simpa using ha)]
      have hc : r.contains 0 = true := by
        rw [List.contains_cons, show ((0 : UInt8) == a) = false from beq_eq_false_iff_ne.2 (Ne.symm ha), Bool.false_or] at h
        exact h
      have := ih hc
      simp only [List.length_cons]
      omega
theorem textu_c (d : Dir) (ub : Nat) (s : List UInt8) (a : Nat) (out : Option Nat) (len cap : Nat) (hc : CntOk d.letter d.count) (ha : a ≤ s.length) (hs : s.length ≤ 1000000) :
    SpecH Tryd.prog 26 [.c (.v (.pointer (some ⟨ub, 0, none⟩))), .c (.v (dirV d))] [.fact UtfF, unE ub s a out len cap]
      (RetG (ι := Unit) (fun _ => True) (fun _ => .string (bs (cutS d (s.drop a)).1)) fun _ => [.fact UtfF, unE ub s (a + (cutS d (s.drop a)).2) out len cap]) := by
  refine ownC hm Tryd.func26 (by kernel_rfl) rfl rfl (fun _ _ => okHB_eq rfl) (fun _ _ => Nat.le_refl _) ?_
  have h72 : ((d.letter.toNat : Int) == 72) = (d.letter == 72) := u8_eq (n := 72) (by decide)
  have h90 : ((d.letter.toNat : Int) == 90) = (d.letter == 90) := u8_eq (n := 90) (by decide)
  have h65 : ((d.letter.toNat : Int) == 65) = (d.letter == 65) := u8_eq (n := 65) (by decide)
  have hzs := bs_size s
  ((conv => whnf); (repeat ((first | refine BoxN.own ?_ | refine RwN.own ?_ | refine VrN.norm (wrap_i64 (by omega)) ?_ | refine VrN.keep ?_ | refine DrawN.calm (by decide +kernel) ?_ | refine Nd.mk (by decide +kernel) ?_ | refine Nd.mk (by omega) ?_ | (refine Nd.mk ?_ ?_; focus ((repeat' (first | exact trivial | exact wkE_refl _ | refine And.intro ?_ ?_)); done)) | refine RdN.intro _ rfl (by rfl) ?_); (conv => whnf))))
  refine brd_eq (fun hk => ?_) (fun hk => ?_)
  · have hc2 : ∀ n, cntS d n = 1 := fun n => by unfold cntS; rw [if_pos hk]
    ((conv => whnf); (repeat ((first | refine BoxN.own ?_ | refine RwN.own ?_ | refine VrN.norm (wrap_i64 (by omega)) ?_ | refine VrN.keep ?_ | refine DrawN.calm (by decide +kernel) ?_ | refine Nd.mk (by decide +kernel) ?_ | refine Nd.mk (by omega) ?_ | (refine Nd.mk ?_ ?_; focus ((repeat' (first | exact trivial | exact wkE_refl _ | refine And.intro ?_ ?_)); done)) | refine RdN.intro _ rfl (by rfl) ?_); (conv => whnf))))
    rw [h72]
    cases e72 : d.letter == 72 with
    | true =>
      -- 1: the digits; 1: as the number is spelled; (.inr ⟨rfl, by decide⟩): that it is so
      ((conv => whnf); (repeat ((first | refine BoxN.own ?_ | refine RwN.own ?_ | refine VrN.norm (wrap_i64 (by omega)) ?_ | refine VrN.keep ?_ | refine DrawN.calm (by decide +kernel) ?_ | refine Nd.mk (by decide +kernel) ?_ | refine Nd.mk (by omega) ?_ | (refine Nd.mk ?_ ?_; focus ((repeat' (first | exact trivial | exact wkE_refl _ | refine And.intro ?_ ?_)); done)) | refine RdN.intro _ rfl (by rfl) ?_); (conv => whnf))))
      refine callG (hexu_c ub s a out len cap (1) (1) (.inr ⟨rfl, by decide⟩) ha hs) [1] rfl ⟨rfl, trivial⟩ rfl fun _ _ => ?_
      have hcut : cutS d (s.drop a) = ((hex ((s.drop a).take ((1 + 1) / 2))).take (1), ((s.drop a).take ((1 + 1) / 2)).length) := by
        unfold cutS
        rw [if_pos e72, List.length_drop, hc2]
      ((conv => whnf); (repeat ((first | refine BoxN.own ?_ | refine RwN.own ?_ | refine VrN.norm (wrap_i64 (by omega)) ?_ | refine VrN.keep ?_ | refine DrawN.calm (by decide +kernel) ?_ | refine Nd.mk (by decide +kernel) ?_ | refine Nd.mk (by omega) ?_ | (refine Nd.mk ?_ ?_; focus ((repeat' (first | exact trivial | exact wkE_refl _ | refine And.intro ?_ ?_)); done)) | refine RdN.intro _ rfl (by rfl) ?_); (conv => whnf))))
      exact ⟨(), trivial, by rw [hcut], by rw [hcut]; exact ⟨wkE_refl _, wkE_refl _, wkH_nil _⟩⟩
    | false =>
      have hcn := hc2 (s.drop a).length
      ((conv => whnf); (repeat ((first | refine BoxN.own ?_ | refine RwN.own ?_ | refine VrN.norm (wrap_i64 (by omega)) ?_ | refine VrN.keep ?_ | refine DrawN.calm (by decide +kernel) ?_ | refine Nd.mk (by decide +kernel) ?_ | refine Nd.mk (by omega) ?_ | (refine Nd.mk ?_ ?_; focus ((repeat' (first | exact trivial | exact wkE_refl _ | refine And.intro ?_ ?_)); done)) | refine RdN.intro _ rfl (by rfl) ?_); (conv => whnf))))
      -- 1: the count; 1: as it is spelled; (fun h => absurd h.1 (by omega)): of cutS
      obtain ⟨b, hb⟩ : ∃ b, (s.drop a).take (1) = b := ⟨_, rfl⟩
      have hbl : b.length = min (1) (s.length - a) := by rw [← hb, List.length_take, List.length_drop]
      have hbt : (s.drop a).take b.length = b := by rw [hbl, ← hb, ← List.length_drop, ← List.take_eq_take_min]
      have hcut : cutS d (s.drop a) = (if d.letter == 65 then trimA b else if d.letter == 90 then b.takeWhile (· != 0) else b, b.length) := by
        unfold cutS
        rw [if_neg (by rw [e72]; decide), if_neg (fun h => absurd h.1 (by omega)), hcn, hb]
      -- the bytes b are cut (1: as the count is spelled), trimmed
      ((conv => whnf); (repeat ((first | refine BoxN.own ?_ | refine RwN.own ?_ | refine VrN.norm (wrap_i64 (by omega)) ?_ | refine VrN.keep ?_ | refine DrawN.calm (by decide +kernel) ?_ | refine Nd.mk (by decide +kernel) ?_ | refine Nd.mk (by omega) ?_ | (refine Nd.mk ?_ ?_; focus ((repeat' (first | exact trivial | exact wkE_refl _ | refine And.intro ?_ ?_)); done)) | refine RdN.intro _ rfl (by rfl) ?_); (conv => whnf))))
      refine call1 (left_c ub s a out len cap ha hs _ (fun w hw => hw.2.1)) ?_
      ((conv => whnf); (repeat ((first | refine BoxN.own ?_ | refine RwN.own ?_ | refine VrN.norm (wrap_i64 (by omega)) ?_ | refine VrN.keep ?_ | refine DrawN.calm (by decide +kernel) ?_ | refine Nd.mk (by decide +kernel) ?_ | refine Nd.mk (by omega) ?_ | (refine Nd.mk ?_ ?_; focus ((repeat' (first | exact trivial | exact wkE_refl _ | refine And.intro ?_ ?_)); done)) | refine RdN.intro _ rfl (by rfl) ?_); (conv => whnf))))
      have hmin : minI (1) ((s.length - a : Nat) : Int) = ((b.length : Nat) : Int) := by
        rw [hbl]
        unfold minI
        split <;> omega
      rw [hmin]
      refine callG (cut_c ub s a b.length out len cap (by omega) hs) [1] rfl ⟨rfl, trivial⟩ rfl fun _ _ => ?_
      rw [hbt]
      ((conv => whnf); (repeat ((first | refine BoxN.own ?_ | refine RwN.own ?_ | refine VrN.norm (wrap_i64 (by omega)) ?_ | refine VrN.keep ?_ | refine DrawN.calm (by decide +kernel) ?_ | refine Nd.mk (by decide +kernel) ?_ | refine Nd.mk (by omega) ?_ | (refine Nd.mk ?_ ?_; focus ((repeat' (first | exact trivial | exact wkE_refl _ | refine And.intro ?_ ?_)); done)) | refine RdN.intro _ rfl (by rfl) ?_); (conv => whnf))))
      rw [h65]
      cases e65 : d.letter == 65 with
      | true =>
        rw [e65, if_pos rfl] at hcut
        ((conv => whnf); (repeat ((first | refine BoxN.own ?_ | refine RwN.own ?_ | refine VrN.norm (wrap_i64 (by omega)) ?_ | refine VrN.keep ?_ | refine DrawN.calm (by decide +kernel) ?_ | refine Nd.mk (by decide +kernel) ?_ | refine Nd.mk (by omega) ?_ | (refine Nd.mk ?_ ?_; focus ((repeat' (first | exact trivial | exact wkE_refl _ | refine And.intro ?_ ?_)); done)) | refine RdN.intro _ rfl (by rfl) ?_); (conv => whnf))))
        refine call1 (TrimZ_c b (by omega) _) ?_
        ((conv => whnf); (repeat ((first | refine BoxN.own ?_ | refine RwN.own ?_ | refine VrN.norm (wrap_i64 (by omega)) ?_ | refine VrN.keep ?_ | refine DrawN.calm (by decide +kernel) ?_ | refine Nd.mk (by decide +kernel) ?_ | refine Nd.mk (by omega) ?_ | (refine Nd.mk ?_ ?_; focus ((repeat' (first | exact trivial | exact wkE_refl _ | refine And.intro ?_ ?_)); done)) | refine RdN.intro _ rfl (by rfl) ?_); (conv => whnf))))
        exact ⟨(), trivial, by rw [hcut], by rw [hcut]; exact ⟨wkE_refl _, wkE_refl _, wkH_nil _⟩⟩
      | false =>
        rw [e65, if_neg (by decide)] at hcut
        ((conv => whnf); (repeat ((first | refine BoxN.own ?_ | refine RwN.own ?_ | refine VrN.norm (wrap_i64 (by omega)) ?_ | refine VrN.keep ?_ | refine DrawN.calm (by decide +kernel) ?_ | refine Nd.mk (by decide +kernel) ?_ | refine Nd.mk (by omega) ?_ | (refine Nd.mk ?_ ?_; focus ((repeat' (first | exact trivial | exact wkE_refl _ | refine And.intro ?_ ?_)); done)) | refine RdN.intro _ rfl (by rfl) ?_); (conv => whnf))))
        rw [h90]
        cases e90 : d.letter == 90 with
        | true =>
          rw [e90, if_pos rfl] at hcut
          ((conv => whnf); (repeat ((first | refine BoxN.own ?_ | refine RwN.own ?_ | refine VrN.norm (wrap_i64 (by omega)) ?_ | refine VrN.keep ?_ | refine DrawN.calm (by decide +kernel) ?_ | refine Nd.mk (by decide +kernel) ?_ | refine Nd.mk (by omega) ?_ | (refine Nd.mk ?_ ?_; focus ((repeat' (first | exact trivial | exact wkE_refl _ | refine And.intro ?_ ?_)); done)) | refine RdN.intro _ rfl (by rfl) ?_); (conv => whnf))))
          refine call1 (Cut_c b [0] (by omega) _ (fun w hw => hw.1.1)) ?_
          rw [cut0]
          ((conv => whnf); (repeat ((first | refine BoxN.own ?_ | refine RwN.own ?_ | refine VrN.norm (wrap_i64 (by omega)) ?_ | refine VrN.keep ?_ | refine DrawN.calm (by decide +kernel) ?_ | refine Nd.mk (by decide +kernel) ?_ | refine Nd.mk (by omega) ?_ | (refine Nd.mk ?_ ?_; focus ((repeat' (first | exact trivial | exact wkE_refl _ | refine And.intro ?_ ?_)); done)) | refine RdN.intro _ rfl (by rfl) ?_); (conv => whnf))))
          exact ⟨(), trivial, by rw [hcut], by rw [hcut]; exact ⟨wkE_refl _, wkE_refl _, wkH_nil _⟩⟩
        | false =>
          rw [e90, if_neg (by decide)] at hcut
          ((conv => whnf); (repeat ((first | refine BoxN.own ?_ | refine RwN.own ?_ | refine VrN.norm (wrap_i64 (by omega)) ?_ | refine VrN.keep ?_ | refine DrawN.calm (by decide +kernel) ?_ | refine Nd.mk (by decide +kernel) ?_ | refine Nd.mk (by omega) ?_ | (refine Nd.mk ?_ ?_; focus ((repeat' (first | exact trivial | exact wkE_refl _ | refine And.intro ?_ ?_)); done)) | refine RdN.intro _ rfl (by rfl) ?_); (conv => whnf))))
          exact ⟨(), trivial, by rw [hcut], by rw [hcut]; exact ⟨wkE_refl _, wkE_refl _, wkH_nil _⟩⟩
  · by_cases hk1 : d.count = -1
    · have hc2 : ∀ n, cntS d n = n := fun n => by unfold cntS; rw [if_neg hk, if_pos hk1]
      ((conv => whnf); (repeat ((first | refine BoxN.own ?_ | refine RwN.own ?_ | refine VrN.norm (wrap_i64 (by omega)) ?_ | refine VrN.keep ?_ | refine DrawN.calm (by decide +kernel) ?_ | refine Nd.mk (by decide +kernel) ?_ | refine Nd.mk (by omega) ?_ | (refine Nd.mk ?_ ?_; focus ((repeat' (first | exact trivial | exact wkE_refl _ | refine And.intro ?_ ?_)); done)) | refine RdN.intro _ rfl (by rfl) ?_); (conv => whnf))))
      rw [h72]
      cases e72 : d.letter == 72 with
      | true =>
        -- (2 * (s.length - a)): the digits; d.count: as the number is spelled; (.inl ⟨hk1, rfl⟩): that it is so
        ((conv => whnf); (repeat ((first | refine BoxN.own ?_ | refine RwN.own ?_ | refine VrN.norm (wrap_i64 (by omega)) ?_ | refine VrN.keep ?_ | refine DrawN.calm (by decide +kernel) ?_ | refine Nd.mk (by decide +kernel) ?_ | refine Nd.mk (by omega) ?_ | (refine Nd.mk ?_ ?_; focus ((repeat' (first | exact trivial | exact wkE_refl _ | refine And.intro ?_ ?_)); done)) | refine RdN.intro _ rfl (by rfl) ?_); (conv => whnf))))
        refine callG (hexu_c ub s a out len cap (d.count) ((2 * (s.length - a))) (.inl ⟨hk1, rfl⟩) ha hs) [1] rfl ⟨rfl, trivial⟩ rfl fun _ _ => ?_
        have hcut : cutS d (s.drop a) = ((hex ((s.drop a).take (((2 * (s.length - a)) + 1) / 2))).take ((2 * (s.length - a))), ((s.drop a).take (((2 * (s.length - a)) + 1) / 2)).length) := by
          unfold cutS
          rw [if_pos e72, List.length_drop, hc2]
        ((conv => whnf); (repeat ((first | refine BoxN.own ?_ | refine RwN.own ?_ | refine VrN.norm (wrap_i64 (by omega)) ?_ | refine VrN.keep ?_ | refine DrawN.calm (by decide +kernel) ?_ | refine Nd.mk (by decide +kernel) ?_ | refine Nd.mk (by omega) ?_ | (refine Nd.mk ?_ ?_; focus ((repeat' (first | exact trivial | exact wkE_refl _ | refine And.intro ?_ ?_)); done)) | refine RdN.intro _ rfl (by rfl) ?_); (conv => whnf))))
        exact ⟨(), trivial, by rw [hcut], by rw [hcut]; exact ⟨wkE_refl _, wkE_refl _, wkH_nil _⟩⟩
      | false =>
        have hcn := hc2 (s.drop a).length
        rw [List.length_drop] at hcn
        have hdl := List.length_drop (l := s) (i := a)
        ((conv => whnf); (repeat ((first | refine BoxN.own ?_ | refine RwN.own ?_ | refine VrN.norm (wrap_i64 (by omega)) ?_ | refine VrN.keep ?_ | refine DrawN.calm (by decide +kernel) ?_ | refine Nd.mk (by decide +kernel) ?_ | refine Nd.mk (by omega) ?_ | (refine Nd.mk ?_ ?_; focus ((repeat' (first | exact trivial | exact wkE_refl _ | refine And.intro ?_ ?_)); done)) | refine RdN.intro _ rfl (by rfl) ?_); (conv => whnf))))
        refine brd_eq (fun _ => ?_) (fun h => absurd hk1 h)
        ((conv => whnf); (repeat ((first | refine BoxN.own ?_ | refine RwN.own ?_ | refine VrN.norm (wrap_i64 (by omega)) ?_ | refine VrN.keep ?_ | refine DrawN.calm (by decide +kernel) ?_ | refine Nd.mk (by decide +kernel) ?_ | refine Nd.mk (by omega) ?_ | (refine Nd.mk ?_ ?_; focus ((repeat' (first | exact trivial | exact wkE_refl _ | refine And.intro ?_ ?_)); done)) | refine RdN.intro _ rfl (by rfl) ?_); (conv => whnf))))
        refine call1 (left_c ub s a out len cap ha hs _ (fun w hw => hw.2.1)) ?_
        ((conv => whnf); (repeat ((first | refine BoxN.own ?_ | refine RwN.own ?_ | refine VrN.norm (wrap_i64 (by omega)) ?_ | refine VrN.keep ?_ | refine DrawN.calm (by decide +kernel) ?_ | refine Nd.mk (by decide +kernel) ?_ | refine Nd.mk (by omega) ?_ | (refine Nd.mk ?_ ?_; focus ((repeat' (first | exact trivial | exact wkE_refl _ | refine And.intro ?_ ?_)); done)) | refine RdN.intro _ rfl (by rfl) ?_); (conv => whnf))))
        refine LdN.one (a := some ⟨ub, 0, none⟩) (q := 0) (.string (bs s)) rfl (fun w hw => hw.2.1) rfl ?_
        ((conv => whnf); (repeat ((first | refine BoxN.own ?_ | refine RwN.own ?_ | refine VrN.norm (wrap_i64 (by omega)) ?_ | refine VrN.keep ?_ | refine DrawN.calm (by decide +kernel) ?_ | refine Nd.mk (by decide +kernel) ?_ | refine Nd.mk (by omega) ?_ | (refine Nd.mk ?_ ?_; focus ((repeat' (first | exact trivial | exact wkE_refl _ | refine And.intro ?_ ?_)); done)) | refine RdN.intro _ rfl (by rfl) ?_); (conv => whnf))))
        refine LdN.one (a := some ⟨ub, 0, none⟩) (q := 1) (.int .i64 (a : Int)) rfl (fun w hw => hw.2.1) rfl ?_
        ((conv => whnf); (repeat ((first | refine BoxN.own ?_ | refine RwN.own ?_ | refine VrN.norm (wrap_i64 (by omega)) ?_ | refine VrN.keep ?_ | refine DrawN.calm (by decide +kernel) ?_ | refine Nd.mk (by decide +kernel) ?_ | refine Nd.mk (by omega) ?_ | (refine Nd.mk ?_ ?_; focus ((repeat' (first | exact trivial | exact wkE_refl _ | refine And.intro ?_ ?_)); done)) | refine RdN.intro _ rfl (by rfl) ?_); (conv => whnf))))
        refine ReadW.sl_l a rfl Tryd.underlying9 rfl rfl ⟨rfl, ha⟩ ?_
        ((conv => whnf); (repeat ((first | refine BoxN.own ?_ | refine RwN.own ?_ | refine VrN.norm (wrap_i64 (by omega)) ?_ | refine VrN.keep ?_ | refine DrawN.calm (by decide +kernel) ?_ | refine Nd.mk (by decide +kernel) ?_ | refine Nd.mk (by omega) ?_ | (refine Nd.mk ?_ ?_; focus ((repeat' (first | exact trivial | exact wkE_refl _ | refine And.intro ?_ ?_)); done)) | refine RdN.intro _ rfl (by rfl) ?_); (conv => whnf))))
        refine callQ (IndexByte_c (s.drop a) 0 _) ?_
        rw [index0]
        by_cases hz : (s.drop a).contains 0 = true
        · rw [if_pos hz]
          obtain ⟨t, ht⟩ : ∃ t, (s.drop a).takeWhile (· != 0) = t := ⟨_, rfl⟩
          have htl : t.length + 1 ≤ s.length - a := by
            rw [← ht, ← hdl]
            exact tw_lt hz
          rw [ht]
          ((conv => whnf); (repeat ((first | refine BoxN.own ?_ | refine RwN.own ?_ | refine VrN.norm (wrap_i64 (by omega)) ?_ | refine VrN.keep ?_ | refine DrawN.calm (by decide +kernel) ?_ | refine Nd.mk (by decide +kernel) ?_ | refine Nd.mk (by omega) ?_ | (refine Nd.mk ?_ ?_; focus ((repeat' (first | exact trivial | exact wkE_refl _ | refine And.intro ?_ ?_)); done)) | refine RdN.intro _ rfl (by rfl) ?_); (conv => whnf))))
          rw [h90]
          cases e90 : d.letter == 90 with
          | true =>
            have hcut : cutS d (s.drop a) = (t, t.length + 1) := by
              unfold cutS
              rw [if_neg (by rw [e72]; decide), if_pos ⟨hk1, e90, hz⟩, ht]
            have htk : ((s.drop a).take (t.length + 1)).take t.length = t := by rw [List.take_take, Nat.min_eq_left (by omega), ← ht]; exact take0 _
            have htk2 : ((s.drop a).take (t.length + 1)).length = t.length + 1 := by rw [List.length_take]; omega
            ((conv => whnf); (repeat ((first | refine BoxN.own ?_ | refine RwN.own ?_ | refine VrN.norm (wrap_i64 (by omega)) ?_ | refine VrN.keep ?_ | refine DrawN.calm (by decide +kernel) ?_ | refine Nd.mk (by decide +kernel) ?_ | refine Nd.mk (by omega) ?_ | (refine Nd.mk ?_ ?_; focus ((repeat' (first | exact trivial | exact wkE_refl _ | refine And.intro ?_ ?_)); done)) | refine RdN.intro _ rfl (by rfl) ?_); (conv => whnf))))
            rw [show IntKind.i64.wrap ((t.length : Int) + 1) = ((t.length + 1 : Nat) : Int) by rw [wrap_i64 (by omega)]; omega]
            refine callG (cut_c ub s a (t.length + 1) out len cap (by omega) hs) [1] rfl ⟨rfl, trivial⟩ rfl fun _ _ => ?_
            ((conv => whnf); (repeat ((first | refine BoxN.own ?_ | refine RwN.own ?_ | refine VrN.norm (wrap_i64 (by omega)) ?_ | refine VrN.keep ?_ | refine DrawN.calm (by decide +kernel) ?_ | refine Nd.mk (by decide +kernel) ?_ | refine Nd.mk (by omega) ?_ | (refine Nd.mk ?_ ?_; focus ((repeat' (first | exact trivial | exact wkE_refl _ | refine And.intro ?_ ?_)); done)) | refine RdN.intro _ rfl (by rfl) ?_); (conv => whnf))))
            refine ReadW.sl_h t.length rfl Tryd.underlying9 rfl rfl ⟨rfl, by omega⟩ ?_
            rw [htk]
            ((conv => whnf); (repeat ((first | refine BoxN.own ?_ | refine RwN.own ?_ | refine VrN.norm (wrap_i64 (by omega)) ?_ | refine VrN.keep ?_ | refine DrawN.calm (by decide +kernel) ?_ | refine Nd.mk (by decide +kernel) ?_ | refine Nd.mk (by omega) ?_ | (refine Nd.mk ?_ ?_; focus ((repeat' (first | exact trivial | exact wkE_refl _ | refine And.intro ?_ ?_)); done)) | refine RdN.intro _ rfl (by rfl) ?_); (conv => whnf))))
            exact ⟨(), trivial, by rw [hcut], by rw [hcut]; exact ⟨wkE_refl _, wkE_refl _, wkH_nil _⟩⟩
          | false =>
            have hn3 : ¬ (d.count = -1 ∧ (d.letter == 90) = true ∧ (s.drop a).contains 0 = true) := fun h => by rw [e90] at h; exact absurd h.2.1 (by decide)
            ((conv => whnf); (repeat ((first | refine BoxN.own ?_ | refine RwN.own ?_ | refine VrN.norm (wrap_i64 (by omega)) ?_ | refine VrN.keep ?_ | refine DrawN.calm (by decide +kernel) ?_ | refine Nd.mk (by decide +kernel) ?_ | refine Nd.mk (by omega) ?_ | (refine Nd.mk ?_ ?_; focus ((repeat' (first | exact trivial | exact wkE_refl _ | refine And.intro ?_ ?_)); done)) | refine RdN.intro _ rfl (by rfl) ?_); (conv => whnf))))
            obtain ⟨b, hb⟩ : ∃ b, (s.drop a).take (s.length - a) = b := ⟨_, rfl⟩
            have hbl : b.length = min (s.length - a) (s.length - a) := by rw [← hb, List.length_take, List.length_drop]
            have hbt : (s.drop a).take b.length = b := by rw [hbl, ← hb, ← List.length_drop, ← List.take_eq_take_min]
            have hcut : cutS d (s.drop a) = (if d.letter == 65 then trimA b else if d.letter == 90 then b.takeWhile (· != 0) else b, b.length) := by
              unfold cutS
              rw [if_neg (by rw [e72]; decide), if_neg hn3, hdl, hcn, hb]
            rw [e90, if_neg (show ¬ false = true by decide)] at hcut
            -- as tail, but Z is known
            ((conv => whnf); (repeat ((first | refine BoxN.own ?_ | refine RwN.own ?_ | refine VrN.norm (wrap_i64 (by omega)) ?_ | refine VrN.keep ?_ | refine DrawN.calm (by decide +kernel) ?_ | refine Nd.mk (by decide +kernel) ?_ | refine Nd.mk (by omega) ?_ | (refine Nd.mk ?_ ?_; focus ((repeat' (first | exact trivial | exact wkE_refl _ | refine And.intro ?_ ?_)); done)) | refine RdN.intro _ rfl (by rfl) ?_); (conv => whnf))))
            refine call1 (left_c ub s a out len cap ha hs _ (fun w hw => hw.2.1)) ?_
            ((conv => whnf); (repeat ((first | refine BoxN.own ?_ | refine RwN.own ?_ | refine VrN.norm (wrap_i64 (by omega)) ?_ | refine VrN.keep ?_ | refine DrawN.calm (by decide +kernel) ?_ | refine Nd.mk (by decide +kernel) ?_ | refine Nd.mk (by omega) ?_ | (refine Nd.mk ?_ ?_; focus ((repeat' (first | exact trivial | exact wkE_refl _ | refine And.intro ?_ ?_)); done)) | refine RdN.intro _ rfl (by rfl) ?_); (conv => whnf))))
            have hmin : minI ((s.length - a : Nat) : Int) ((s.length - a : Nat) : Int) = ((b.length : Nat) : Int) := by
              rw [hbl]
              unfold minI
              split <;> omega
            rw [hmin]
            refine callG (cut_c ub s a b.length out len cap (by omega) hs) [1] rfl ⟨rfl, trivial⟩ rfl fun _ _ => ?_
            rw [hbt]
            ((conv => whnf); (repeat ((first | refine BoxN.own ?_ | refine RwN.own ?_ | refine VrN.norm (wrap_i64 (by omega)) ?_ | refine VrN.keep ?_ | refine DrawN.calm (by decide +kernel) ?_ | refine Nd.mk (by decide +kernel) ?_ | refine Nd.mk (by omega) ?_ | (refine Nd.mk ?_ ?_; focus ((repeat' (first | exact trivial | exact wkE_refl _ | refine And.intro ?_ ?_)); done)) | refine RdN.intro _ rfl (by rfl) ?_); (conv => whnf))))
            rw [h65]
            cases e65 : d.letter == 65 with
            | true =>
              rw [e65, if_pos rfl] at hcut
              ((conv => whnf); (repeat ((first | refine BoxN.own ?_ | refine RwN.own ?_ | refine VrN.norm (wrap_i64 (by omega)) ?_ | refine VrN.keep ?_ | refine DrawN.calm (by decide +kernel) ?_ | refine Nd.mk (by decide +kernel) ?_ | refine Nd.mk (by omega) ?_ | (refine Nd.mk ?_ ?_; focus ((repeat' (first | exact trivial | exact wkE_refl _ | refine And.intro ?_ ?_)); done)) | refine RdN.intro _ rfl (by rfl) ?_); (conv => whnf))))
              refine call1 (TrimZ_c b (by omega) _) ?_
              ((conv => whnf); (repeat ((first | refine BoxN.own ?_ | refine RwN.own ?_ | refine VrN.norm (wrap_i64 (by omega)) ?_ | refine VrN.keep ?_ | refine DrawN.calm (by decide +kernel) ?_ | refine Nd.mk (by decide +kernel) ?_ | refine Nd.mk (by omega) ?_ | (refine Nd.mk ?_ ?_; focus ((repeat' (first | exact trivial | exact wkE_refl _ | refine And.intro ?_ ?_)); done)) | refine RdN.intro _ rfl (by rfl) ?_); (conv => whnf))))
              exact ⟨(), trivial, by rw [hcut], by rw [hcut]; exact ⟨wkE_refl _, wkE_refl _, wkH_nil _⟩⟩
            | false =>
              rw [e65, if_neg (by decide)] at hcut
              ((conv => whnf); (repeat ((first | refine BoxN.own ?_ | refine RwN.own ?_ | refine VrN.norm (wrap_i64 (by omega)) ?_ | refine VrN.keep ?_ | refine DrawN.calm (by decide +kernel) ?_ | refine Nd.mk (by decide +kernel) ?_ | refine Nd.mk (by omega) ?_ | (refine Nd.mk ?_ ?_; focus ((repeat' (first | exact trivial | exact wkE_refl _ | refine And.intro ?_ ?_)); done)) | refine RdN.intro _ rfl (by rfl) ?_); (conv => whnf))))
              rw [h90, e90]
              ((conv => whnf); (repeat ((first | refine BoxN.own ?_ | refine RwN.own ?_ | refine VrN.norm (wrap_i64 (by omega)) ?_ | refine VrN.keep ?_ | refine DrawN.calm (by decide +kernel) ?_ | refine Nd.mk (by decide +kernel) ?_ | refine Nd.mk (by omega) ?_ | (refine Nd.mk ?_ ?_; focus ((repeat' (first | exact trivial | exact wkE_refl _ | refine And.intro ?_ ?_)); done)) | refine RdN.intro _ rfl (by rfl) ?_); (conv => whnf)))); exact ⟨(), trivial, by rw [hcut], by rw [hcut]; exact ⟨wkE_refl _, wkE_refl _, wkH_nil _⟩⟩
        · rw [if_neg hz]
          have hn3 : ¬ (d.count = -1 ∧ (d.letter == 90) = true ∧ (s.drop a).contains 0 = true) := fun h => hz h.2.2
          ((conv => whnf); (repeat ((first | refine BoxN.own ?_ | refine RwN.own ?_ | refine VrN.norm (wrap_i64 (by omega)) ?_ | refine VrN.keep ?_ | refine DrawN.calm (by decide +kernel) ?_ | refine Nd.mk (by decide +kernel) ?_ | refine Nd.mk (by omega) ?_ | (refine Nd.mk ?_ ?_; focus ((repeat' (first | exact trivial | exact wkE_refl _ | refine And.intro ?_ ?_)); done)) | refine RdN.intro _ rfl (by rfl) ?_); (conv => whnf))))
          rw [h90]
          cases e90 : d.letter == 90 with
          | true =>
            ((conv => whnf); (repeat ((first | refine BoxN.own ?_ | refine RwN.own ?_ | refine VrN.norm (wrap_i64 (by omega)) ?_ | refine VrN.keep ?_ | refine DrawN.calm (by decide +kernel) ?_ | refine Nd.mk (by decide +kernel) ?_ | refine Nd.mk (by omega) ?_ | (refine Nd.mk ?_ ?_; focus ((repeat' (first | exact trivial | exact wkE_refl _ | refine And.intro ?_ ?_)); done)) | refine RdN.intro _ rfl (by rfl) ?_); (conv => whnf))))
            obtain ⟨b, hb⟩ : ∃ b, (s.drop a).take (s.length - a) = b := ⟨_, rfl⟩
            have hbl : b.length = min (s.length - a) (s.length - a) := by rw [← hb, List.length_take, List.length_drop]
            have hbt : (s.drop a).take b.length = b := by rw [hbl, ← hb, ← List.length_drop, ← List.take_eq_take_min]
            have hcut : cutS d (s.drop a) = (if d.letter == 65 then trimA b else if d.letter == 90 then b.takeWhile (· != 0) else b, b.length) := by
              unfold cutS
              rw [if_neg (by rw [e72]; decide), if_neg hn3, hdl, hcn, hb]
            rw [e90, if_pos (show true = true from rfl)] at hcut
            -- as tail, but Z is known
            ((conv => whnf); (repeat ((first | refine BoxN.own ?_ | refine RwN.own ?_ | refine VrN.norm (wrap_i64 (by omega)) ?_ | refine VrN.keep ?_ | refine DrawN.calm (by decide +kernel) ?_ | refine Nd.mk (by decide +kernel) ?_ | refine Nd.mk (by omega) ?_ | (refine Nd.mk ?_ ?_; focus ((repeat' (first | exact trivial | exact wkE_refl _ | refine And.intro ?_ ?_)); done)) | refine RdN.intro _ rfl (by rfl) ?_); (conv => whnf))))
            refine call1 (left_c ub s a out len cap ha hs _ (fun w hw => hw.2.1)) ?_
            ((conv => whnf); (repeat ((first | refine BoxN.own ?_ | refine RwN.own ?_ | refine VrN.norm (wrap_i64 (by omega)) ?_ | refine VrN.keep ?_ | refine DrawN.calm (by decide +kernel) ?_ | refine Nd.mk (by decide +kernel) ?_ | refine Nd.mk (by omega) ?_ | (refine Nd.mk ?_ ?_; focus ((repeat' (first | exact trivial | exact wkE_refl _ | refine And.intro ?_ ?_)); done)) | refine RdN.intro _ rfl (by rfl) ?_); (conv => whnf))))
            have hmin : minI ((s.length - a : Nat) : Int) ((s.length - a : Nat) : Int) = ((b.length : Nat) : Int) := by
              rw [hbl]
              unfold minI
              split <;> omega
            rw [hmin]
            refine callG (cut_c ub s a b.length out len cap (by omega) hs) [1] rfl ⟨rfl, trivial⟩ rfl fun _ _ => ?_
            rw [hbt]
            ((conv => whnf); (repeat ((first | refine BoxN.own ?_ | refine RwN.own ?_ | refine VrN.norm (wrap_i64 (by omega)) ?_ | refine VrN.keep ?_ | refine DrawN.calm (by decide +kernel) ?_ | refine Nd.mk (by decide +kernel) ?_ | refine Nd.mk (by omega) ?_ | (refine Nd.mk ?_ ?_; focus ((repeat' (first | exact trivial | exact wkE_refl _ | refine And.intro ?_ ?_)); done)) | refine RdN.intro _ rfl (by rfl) ?_); (conv => whnf))))
            rw [h65]
            cases e65 : d.letter == 65 with
            | true =>
              rw [e65, if_pos rfl] at hcut
              ((conv => whnf); (repeat ((first | refine BoxN.own ?_ | refine RwN.own ?_ | refine VrN.norm (wrap_i64 (by omega)) ?_ | refine VrN.keep ?_ | refine DrawN.calm (by decide +kernel) ?_ | refine Nd.mk (by decide +kernel) ?_ | refine Nd.mk (by omega) ?_ | (refine Nd.mk ?_ ?_; focus ((repeat' (first | exact trivial | exact wkE_refl _ | refine And.intro ?_ ?_)); done)) | refine RdN.intro _ rfl (by rfl) ?_); (conv => whnf))))
              refine call1 (TrimZ_c b (by omega) _) ?_
              ((conv => whnf); (repeat ((first | refine BoxN.own ?_ | refine RwN.own ?_ | refine VrN.norm (wrap_i64 (by omega)) ?_ | refine VrN.keep ?_ | refine DrawN.calm (by decide +kernel) ?_ | refine Nd.mk (by decide +kernel) ?_ | refine Nd.mk (by omega) ?_ | (refine Nd.mk ?_ ?_; focus ((repeat' (first | exact trivial | exact wkE_refl _ | refine And.intro ?_ ?_)); done)) | refine RdN.intro _ rfl (by rfl) ?_); (conv => whnf))))
              exact ⟨(), trivial, by rw [hcut], by rw [hcut]; exact ⟨wkE_refl _, wkE_refl _, wkH_nil _⟩⟩
            | false =>
              rw [e65, if_neg (by decide)] at hcut
              ((conv => whnf); (repeat ((first | refine BoxN.own ?_ | refine RwN.own ?_ | refine VrN.norm (wrap_i64 (by omega)) ?_ | refine VrN.keep ?_ | refine DrawN.calm (by decide +kernel) ?_ | refine Nd.mk (by decide +kernel) ?_ | refine Nd.mk (by omega) ?_ | (refine Nd.mk ?_ ?_; focus ((repeat' (first | exact trivial | exact wkE_refl _ | refine And.intro ?_ ?_)); done)) | refine RdN.intro _ rfl (by rfl) ?_); (conv => whnf))))
              rw [h90, e90]
              ((conv => whnf); (repeat ((first | refine BoxN.own ?_ | refine RwN.own ?_ | refine VrN.norm (wrap_i64 (by omega)) ?_ | refine VrN.keep ?_ | refine DrawN.calm (by decide +kernel) ?_ | refine Nd.mk (by decide +kernel) ?_ | refine Nd.mk (by omega) ?_ | (refine Nd.mk ?_ ?_; focus ((repeat' (first | exact trivial | exact wkE_refl _ | refine And.intro ?_ ?_)); done)) | refine RdN.intro _ rfl (by rfl) ?_); (conv => whnf)))); refine call1 (Cut_c b [0] (by omega) _ (fun w hw => hw.1.1)) ?_; rw [cut0]; ((conv => whnf); (repeat ((first | refine BoxN.own ?_ | refine RwN.own ?_ | refine VrN.norm (wrap_i64 (by omega)) ?_ | refine VrN.keep ?_ | refine DrawN.calm (by decide +kernel) ?_ | refine Nd.mk (by decide +kernel) ?_ | refine Nd.mk (by omega) ?_ | (refine Nd.mk ?_ ?_; focus ((repeat' (first | exact trivial | exact wkE_refl _ | refine And.intro ?_ ?_)); done)) | refine RdN.intro _ rfl (by rfl) ?_); (conv => whnf)))); exact ⟨(), trivial, by rw [hcut], by rw [hcut]; exact ⟨wkE_refl _, wkE_refl _, wkH_nil _⟩⟩
          | false =>
            ((conv => whnf); (repeat ((first | refine BoxN.own ?_ | refine RwN.own ?_ | refine VrN.norm (wrap_i64 (by omega)) ?_ | refine VrN.keep ?_ | refine DrawN.calm (by decide +kernel) ?_ | refine Nd.mk (by decide +kernel) ?_ | refine Nd.mk (by omega) ?_ | (refine Nd.mk ?_ ?_; focus ((repeat' (first | exact trivial | exact wkE_refl _ | refine And.intro ?_ ?_)); done)) | refine RdN.intro _ rfl (by rfl) ?_); (conv => whnf))))
            obtain ⟨b, hb⟩ : ∃ b, (s.drop a).take (s.length - a) = b := ⟨_, rfl⟩
            have hbl : b.length = min (s.length - a) (s.length - a) := by rw [← hb, List.length_take, List.length_drop]
            have hbt : (s.drop a).take b.length = b := by rw [hbl, ← hb, ← List.length_drop, ← List.take_eq_take_min]
            have hcut : cutS d (s.drop a) = (if d.letter == 65 then trimA b else if d.letter == 90 then b.takeWhile (· != 0) else b, b.length) := by
              unfold cutS
              rw [if_neg (by rw [e72]; decide), if_neg hn3, hdl, hcn, hb]
            rw [e90, if_neg (show ¬ false = true by decide)] at hcut
            -- as tail, but Z is known
            ((conv => whnf); (repeat ((first | refine BoxN.own ?_ | refine RwN.own ?_ | refine VrN.norm (wrap_i64 (by omega)) ?_ | refine VrN.keep ?_ | refine DrawN.calm (by decide +kernel) ?_ | refine Nd.mk (by decide +kernel) ?_ | refine Nd.mk (by omega) ?_ | (refine Nd.mk ?_ ?_; focus ((repeat' (first | exact trivial | exact wkE_refl _ | refine And.intro ?_ ?_)); done)) | refine RdN.intro _ rfl (by rfl) ?_); (conv => whnf))))
            refine call1 (left_c ub s a out len cap ha hs _ (fun w hw => hw.2.1)) ?_
            ((conv => whnf); (repeat ((first | refine BoxN.own ?_ | refine RwN.own ?_ | refine VrN.norm (wrap_i64 (by omega)) ?_ | refine VrN.keep ?_ | refine DrawN.calm (by decide +kernel) ?_ | refine Nd.mk (by decide +kernel) ?_ | refine Nd.mk (by omega) ?_ | (refine Nd.mk ?_ ?_; focus ((repeat' (first | exact trivial | exact wkE_refl _ | refine And.intro ?_ ?_)); done)) | refine RdN.intro _ rfl (by rfl) ?_); (conv => whnf))))
            have hmin : minI ((s.length - a : Nat) : Int) ((s.length - a : Nat) : Int) = ((b.length : Nat) : Int) := by
              rw [hbl]
              unfold minI
              split <;> omega
            rw [hmin]
            refine callG (cut_c ub s a b.length out len cap (by omega) hs) [1] rfl ⟨rfl, trivial⟩ rfl fun _ _ => ?_
            rw [hbt]
            ((conv => whnf); (repeat ((first | refine BoxN.own ?_ | refine RwN.own ?_ | refine VrN.norm (wrap_i64 (by omega)) ?_ | refine VrN.keep ?_ | refine DrawN.calm (by decide +kernel) ?_ | refine Nd.mk (by decide +kernel) ?_ | refine Nd.mk (by omega) ?_ | (refine Nd.mk ?_ ?_; focus ((repeat' (first | exact trivial | exact wkE_refl _ | refine And.intro ?_ ?_)); done)) | refine RdN.intro _ rfl (by rfl) ?_); (conv => whnf))))
            rw [h65]
            cases e65 : d.letter == 65 with
            | true =>
              rw [e65, if_pos rfl] at hcut
              ((conv => whnf); (repeat ((first | refine BoxN.own ?_ | refine RwN.own ?_ | refine VrN.norm (wrap_i64 (by omega)) ?_ | refine VrN.keep ?_ | refine DrawN.calm (by decide +kernel) ?_ | refine Nd.mk (by decide +kernel) ?_ | refine Nd.mk (by omega) ?_ | (refine Nd.mk ?_ ?_; focus ((repeat' (first | exact trivial | exact wkE_refl _ | refine And.intro ?_ ?_)); done)) | refine RdN.intro _ rfl (by rfl) ?_); (conv => whnf))))
              refine call1 (TrimZ_c b (by omega) _) ?_
              ((conv => whnf); (repeat ((first | refine BoxN.own ?_ | refine RwN.own ?_ | refine VrN.norm (wrap_i64 (by omega)) ?_ | refine VrN.keep ?_ | refine DrawN.calm (by decide +kernel) ?_ | refine Nd.mk (by decide +kernel) ?_ | refine Nd.mk (by omega) ?_ | (refine Nd.mk ?_ ?_; focus ((repeat' (first | exact trivial | exact wkE_refl _ | refine And.intro ?_ ?_)); done)) | refine RdN.intro _ rfl (by rfl) ?_); (conv => whnf))))
              exact ⟨(), trivial, by rw [hcut], by rw [hcut]; exact ⟨wkE_refl _, wkE_refl _, wkH_nil _⟩⟩
            | false =>
              rw [e65, if_neg (by decide)] at hcut
              ((conv => whnf); (repeat ((first | refine BoxN.own ?_ | refine RwN.own ?_ | refine VrN.norm (wrap_i64 (by omega)) ?_ | refine VrN.keep ?_ | refine DrawN.calm (by decide +kernel) ?_ | refine Nd.mk (by decide +kernel) ?_ | refine Nd.mk (by omega) ?_ | (refine Nd.mk ?_ ?_; focus ((repeat' (first | exact trivial | exact wkE_refl _ | refine And.intro ?_ ?_)); done)) | refine RdN.intro _ rfl (by rfl) ?_); (conv => whnf))))
              rw [h90, e90]
              ((conv => whnf); (repeat ((first | refine BoxN.own ?_ | refine RwN.own ?_ | refine VrN.norm (wrap_i64 (by omega)) ?_ | refine VrN.keep ?_ | refine DrawN.calm (by decide +kernel) ?_ | refine Nd.mk (by decide +kernel) ?_ | refine Nd.mk (by omega) ?_ | (refine Nd.mk ?_ ?_; focus ((repeat' (first | exact trivial | exact wkE_refl _ | refine And.intro ?_ ?_)); done)) | refine RdN.intro _ rfl (by rfl) ?_); (conv => whnf)))); exact ⟨(), trivial, by rw [hcut], by rw [hcut]; exact ⟨wkE_refl _, wkE_refl _, wkH_nil _⟩⟩
    · obtain ⟨T, hT⟩ : ∃ T : Nat, d.count.toNat = T := ⟨_, rfl⟩
      have hT2 : d.count = (T : Int) ∧ T ≤ 1000 := by
        unfold CntOk at hc
        omega
      have hc2 : ∀ n, cntS d n = T := fun n => by unfold cntS; rw [if_neg hk, if_neg hk1]; exact hT
      ((conv => whnf); (repeat ((first | refine BoxN.own ?_ | refine RwN.own ?_ | refine VrN.norm (wrap_i64 (by omega)) ?_ | refine VrN.keep ?_ | refine DrawN.calm (by decide +kernel) ?_ | refine Nd.mk (by decide +kernel) ?_ | refine Nd.mk (by omega) ?_ | (refine Nd.mk ?_ ?_; focus ((repeat' (first | exact trivial | exact wkE_refl _ | refine And.intro ?_ ?_)); done)) | refine RdN.intro _ rfl (by rfl) ?_); (conv => whnf))))
      rw [h72]
      cases e72 : d.letter == 72 with
      | true =>
        -- T: the digits; d.count: as the number is spelled; (.inr hT2): that it is so
        ((conv => whnf); (repeat ((first | refine BoxN.own ?_ | refine RwN.own ?_ | refine VrN.norm (wrap_i64 (by omega)) ?_ | refine VrN.keep ?_ | refine DrawN.calm (by decide +kernel) ?_ | refine Nd.mk (by decide +kernel) ?_ | refine Nd.mk (by omega) ?_ | (refine Nd.mk ?_ ?_; focus ((repeat' (first | exact trivial | exact wkE_refl _ | refine And.intro ?_ ?_)); done)) | refine RdN.intro _ rfl (by rfl) ?_); (conv => whnf))))
        refine callG (hexu_c ub s a out len cap (d.count) (T) (.inr hT2) ha hs) [1] rfl ⟨rfl, trivial⟩ rfl fun _ _ => ?_
        have hcut : cutS d (s.drop a) = ((hex ((s.drop a).take ((T + 1) / 2))).take (T), ((s.drop a).take ((T + 1) / 2)).length) := by
          unfold cutS
          rw [if_pos e72, List.length_drop, hc2]
        ((conv => whnf); (repeat ((first | refine BoxN.own ?_ | refine RwN.own ?_ | refine VrN.norm (wrap_i64 (by omega)) ?_ | refine VrN.keep ?_ | refine DrawN.calm (by decide +kernel) ?_ | refine Nd.mk (by decide +kernel) ?_ | refine Nd.mk (by omega) ?_ | (refine Nd.mk ?_ ?_; focus ((repeat' (first | exact trivial | exact wkE_refl _ | refine And.intro ?_ ?_)); done)) | refine RdN.intro _ rfl (by rfl) ?_); (conv => whnf))))
        exact ⟨(), trivial, by rw [hcut], by rw [hcut]; exact ⟨wkE_refl _, wkE_refl _, wkH_nil _⟩⟩
      | false =>
        have hcn := hc2 (s.drop a).length
        ((conv => whnf); (repeat ((first | refine BoxN.own ?_ | refine RwN.own ?_ | refine VrN.norm (wrap_i64 (by omega)) ?_ | refine VrN.keep ?_ | refine DrawN.calm (by decide +kernel) ?_ | refine Nd.mk (by decide +kernel) ?_ | refine Nd.mk (by omega) ?_ | (refine Nd.mk ?_ ?_; focus ((repeat' (first | exact trivial | exact wkE_refl _ | refine And.intro ?_ ?_)); done)) | refine RdN.intro _ rfl (by rfl) ?_); (conv => whnf))))
        refine brd_eq (fun h => absurd h hk1) (fun _ => ?_)
        -- T: the count; d.count: as it is spelled; (fun h => absurd h.1 hk1): of cutS
        obtain ⟨b, hb⟩ : ∃ b, (s.drop a).take (T) = b := ⟨_, rfl⟩
        have hbl : b.length = min (T) (s.length - a) := by rw [← hb, List.length_take, List.length_drop]
        have hbt : (s.drop a).take b.length = b := by rw [hbl, ← hb, ← List.length_drop, ← List.take_eq_take_min]
        have hcut : cutS d (s.drop a) = (if d.letter == 65 then trimA b else if d.letter == 90 then b.takeWhile (· != 0) else b, b.length) := by
          unfold cutS
          rw [if_neg (by rw [e72]; decide), if_neg (fun h => absurd h.1 hk1), hcn, hb]
        -- the bytes b are cut (d.count: as the count is spelled), trimmed
        ((conv => whnf); (repeat ((first | refine BoxN.own ?_ | refine RwN.own ?_ | refine VrN.norm (wrap_i64 (by omega)) ?_ | refine VrN.keep ?_ | refine DrawN.calm (by decide +kernel) ?_ | refine Nd.mk (by decide +kernel) ?_ | refine Nd.mk (by omega) ?_ | (refine Nd.mk ?_ ?_; focus ((repeat' (first | exact trivial | exact wkE_refl _ | refine And.intro ?_ ?_)); done)) | refine RdN.intro _ rfl (by rfl) ?_); (conv => whnf))))
        refine call1 (left_c ub s a out len cap ha hs _ (fun w hw => hw.2.1)) ?_
        ((conv => whnf); (repeat ((first | refine BoxN.own ?_ | refine RwN.own ?_ | refine VrN.norm (wrap_i64 (by omega)) ?_ | refine VrN.keep ?_ | refine DrawN.calm (by decide +kernel) ?_ | refine Nd.mk (by decide +kernel) ?_ | refine Nd.mk (by omega) ?_ | (refine Nd.mk ?_ ?_; focus ((repeat' (first | exact trivial | exact wkE_refl _ | refine And.intro ?_ ?_)); done)) | refine RdN.intro _ rfl (by rfl) ?_); (conv => whnf))))
        have hmin : minI (d.count) ((s.length - a : Nat) : Int) = ((b.length : Nat) : Int) := by
          rw [hbl]
          unfold minI
          split <;> omega
        rw [hmin]
        refine callG (cut_c ub s a b.length out len cap (by omega) hs) [1] rfl ⟨rfl, trivial⟩ rfl fun _ _ => ?_
        rw [hbt]
        ((conv => whnf); (repeat ((first | refine BoxN.own ?_ | refine RwN.own ?_ | refine VrN.norm (wrap_i64 (by omega)) ?_ | refine VrN.keep ?_ | refine DrawN.calm (by decide +kernel) ?_ | refine Nd.mk (by decide +kernel) ?_ | refine Nd.mk (by omega) ?_ | (refine Nd.mk ?_ ?_; focus ((repeat' (first | exact trivial | exact wkE_refl _ | refine And.intro ?_ ?_)); done)) | refine RdN.intro _ rfl (by rfl) ?_); (conv => whnf))))
        rw [h65]
        cases e65 : d.letter == 65 with
        | true =>
          rw [e65, if_pos rfl] at hcut
          ((conv => whnf); (repeat ((first | refine BoxN.own ?_ | refine RwN.own ?_ | refine VrN.norm (wrap_i64 (by omega)) ?_ | refine VrN.keep ?_ | refine DrawN.calm (by decide +kernel) ?_ | refine Nd.mk (by decide +kernel) ?_ | refine Nd.mk (by omega) ?_ | (refine Nd.mk ?_ ?_; focus ((repeat' (first | exact trivial | exact wkE_refl _ | refine And.intro ?_ ?_)); done)) | refine RdN.intro _ rfl (by rfl) ?_); (conv => whnf))))
          refine call1 (TrimZ_c b (by omega) _) ?_
          ((conv => whnf); (repeat ((first | refine BoxN.own ?_ | refine RwN.own ?_ | refine VrN.norm (wrap_i64 (by omega)) ?_ | refine VrN.keep ?_ | refine DrawN.calm (by decide +kernel) ?_ | refine Nd.mk (by decide +kernel) ?_ | refine Nd.mk (by omega) ?_ | (refine Nd.mk ?_ ?_; focus ((repeat' (first | exact trivial | exact wkE_refl _ | refine And.intro ?_ ?_)); done)) | refine RdN.intro _ rfl (by rfl) ?_); (conv => whnf))))
          exact ⟨(), trivial, by rw [hcut], by rw [hcut]; exact ⟨wkE_refl _, wkE_refl _, wkH_nil _⟩⟩
        | false =>
          rw [e65, if_neg (by decide)] at hcut
          ((conv => whnf); (repeat ((first | refine BoxN.own ?_ | refine RwN.own ?_ | refine VrN.norm (wrap_i64 (by omega)) ?_ | refine VrN.keep ?_ | refine DrawN.calm (by decide +kernel) ?_ | refine Nd.mk (by decide +kernel) ?_ | refine Nd.mk (by omega) ?_ | (refine Nd.mk ?_ ?_; focus ((repeat' (first | exact trivial | exact wkE_refl _ | refine And.intro ?_ ?_)); done)) | refine RdN.intro _ rfl (by rfl) ?_); (conv => whnf))))
          rw [h90]
          cases e90 : d.letter == 90 with
          | true =>
            rw [e90, if_pos rfl] at hcut
            ((conv => whnf); (repeat ((first | refine BoxN.own ?_ | refine RwN.own ?_ | refine VrN.norm (wrap_i64 (by omega)) ?_ | refine VrN.keep ?_ | refine DrawN.calm (by decide +kernel) ?_ | refine Nd.mk (by decide +kernel) ?_ | refine Nd.mk (by omega) ?_ | (refine Nd.mk ?_ ?_; focus ((repeat' (first | exact trivial | exact wkE_refl _ | refine And.intro ?_ ?_)); done)) | refine RdN.intro _ rfl (by rfl) ?_); (conv => whnf))))
            refine call1 (Cut_c b [0] (by omega) _ (fun w hw => hw.1.1)) ?_
            rw [cut0]
            ((conv => whnf); (repeat ((first | refine BoxN.own ?_ | refine RwN.own ?_ | refine VrN.norm (wrap_i64 (by omega)) ?_ | refine VrN.keep ?_ | refine DrawN.calm (by decide +kernel) ?_ | refine Nd.mk (by decide +kernel) ?_ | refine Nd.mk (by omega) ?_ | (refine Nd.mk ?_ ?_; focus ((repeat' (first | exact trivial | exact wkE_refl _ | refine And.intro ?_ ?_)); done)) | refine RdN.intro _ rfl (by rfl) ?_); (conv => whnf))))
            exact ⟨(), trivial, by rw [hcut], by rw [hcut]; exact ⟨wkE_refl _, wkE_refl _, wkH_nil _⟩⟩
          | false =>
            rw [e90, if_neg (by decide)] at hcut
            ((conv => whnf); (repeat ((first | refine BoxN.own ?_ | refine RwN.own ?_ | refine VrN.norm (wrap_i64 (by omega)) ?_ | refine VrN.keep ?_ | refine DrawN.calm (by decide +kernel) ?_ | refine Nd.mk (by decide +kernel) ?_ | refine Nd.mk (by omega) ?_ | (refine Nd.mk ?_ ?_; focus ((repeat' (first | exact trivial | exact wkE_refl _ | refine And.intro ?_ ?_)); done)) | refine RdN.intro _ rfl (by rfl) ?_); (conv => whnf))))
            exact ⟨(), trivial, by rw [hcut], by rw [hcut]; exact ⟨wkE_refl _, wkE_refl _, wkH_nil _⟩⟩
end Go.Proofs.YtjkchonpnocffaaDoor

/-
  AX, thirty-second text: append(l, make([]byte, n)...): so many zeros onto a slice of bytes that grows.
-/
namespace Go.AX

end Go.AX

/-
  AX, thirty-third text: readings that are the same in all worlds of a kind.
-/
namespace Go.AX

theorem ReadC.load {P : Program} {C : World → Prop} {o : Oper} {s : List AV} {K : AV → Prop} {T : TypeId} {x : Operand} {p : Addr} (v : Value) (ho : o.op = .load T x) (hx : opv s x = .c (.v (.pointer (some p)))) (hF : ∀ w, C w → (loadVar T p).run P w = .ok v w) (hk : K (.c (.v v))) : ∃ x, ReadC P C o s K x :=
  ⟨v, fun cs b e => (by rw [ho] at e; cases e), by rw [ho]; show allPlain s [x] = true; simp [allPlain, hx], fun w hw => by
    have hx2 : plainEv s x = .pointer (some p) := by unfold plainEv; rw [hx]
    unfold execOp
    simp [ho, hx2, Instr.loadAt, Instr.sureAddr, hF w hw], hk⟩
/-- A load of one cell. -/
theorem ReadC.one {P : Program} {C : World → Prop} {o : Oper} {s : List AV} {K : AV → Prop} {T : TypeId} {x : Operand} {a : Option Addr} {q k : Nat} {xs : List Value} (v : Value) (ho : o.op = .load T x) (hx : opv s x = .c (.v (.pointer (some (elemAddr a q))))) (hT : shapeT P T = some none)
    (hF : ∀ w, C w → SlAt a k xs w) (hv : xs[q]? = some v) (hk : K (.c (.v v))) : ∃ x, ReadC P C o s K x :=
  ReadC.load v ho hx (fun w hw => loadVar_cell hT ((hF w hw).cell hv)) hk
/-- A load of a struct. -/
theorem ReadC.agg {P : Program} {C : World → Prop} {o : Oper} {s : List AV} {K : AV → Prop} {T : TypeId} {x : Operand} {a : Option Addr} {q n k : Nat} {xs : List Value} (ys : List Value) (ho : o.op = .load T x) (hx : opv s x = .c (.v (.pointer (some (elemAddr a q))))) (hT : shapeT P T = some (some n))
    (hF : ∀ w, C w → SlAt a k xs w) (hl : ys.length = n) (hv : ∀ j, j < n → xs[q + j]? = ys[j]?) (hk : K (.c (.v (.agg ys.toArray)))) : ∃ x, ReadC P C o s K x :=
  ReadC.load (.agg ys.toArray) ho hx (fun w hw => loadVar_cells hT hl fun j v hj => by
    have hjn : j < n := by rw [← hl]; exact (List.getElem?_eq_some_iff.1 hj).1
    rw [elemAddr, Addr.add_add]
    exact (hF w hw).cell ((hv j hjn).trans hj)) hk
theorem ReadC.nil {P : Program} {C : World → Prop} {o : Oper} {s : List AV} {K : AV → Prop} {x : Operand} {p : Addr} (ho : o.op = .nilCheck x) (hx : opv s x = .c (.v (.pointer (some p)))) (hk : K (.c (.v (.pointer (some p))))) : ∃ x, ReadC P C o s K x :=
  ⟨.pointer (some p), fun cs b e => (by rw [ho] at e; cases e), by rw [ho]; show allPlain s [x] = true; simp [allPlain, hx], fun w _ => by
    have hx2 : plainEv s x = .pointer (some p) := by unfold plainEv; rw [hx]
    unfold execOp
    simp [ho, hx2], hk⟩
end Go.AX
