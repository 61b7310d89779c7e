/-
  Lemmas (C14 P12 C15 P13 C16 P14 C17 C18 C19 C20 C21 C22 C23).
-/
import Derived.Shelf.Unicode.DecodeAny
import Derived.Test.YtjkchonpnocffaaDoorMb4
/-
  Contract: a text is written (program).
-/
namespace Go.Proofs.YtjkchonpnocffaaDoor
open Go.AX Go.RowKit Go.Pack
set_option maxRecDepth 20000

set_option maxHeartbeats 1000000 in
theorem text_c (d : Dir) (s : List UInt8) (hs : s.length ≤ 140737488351232) (hd1 : 1 ≤ d.count ∧ d.count ≤ 1000 ∨ d.count = -1 ∨ d.count = -2) : SpecF Tryd.prog 90 [dirV d, .string (bs s)] (fun _ => True) (WrR (textS d s)) := by
  have hd : 0 ≤ d.count ∧ d.count ≤ 1000 ∨ d.count = -1 ∨ d.count = -2 := by omega
  have hz := bs_size s
  have h72 : ((d.letter.toNat : Int) == 72) = (d.letter == 72) := u8_eq (n := 72) (by decide)
  have h90 : ((d.letter.toNat : Int) == 90) = (d.letter == 90) := u8_eq (n := 90) (by decide)
  have h65 : ((d.letter.toNat : Int) == 65) = (d.letter == 65) := u8_eq (n := 65) (by decide)
  refine specF hm Tryd.func90 (by kernel_rfl) rfl rfl ?_
  (first | refine wX ?_ | exact wZ)
  rw [h72]
  cases hH : d.letter == 72 with
  | true =>
    have hT : textS d s = hexS (cntS d s.length) s := by unfold textS; rw [if_pos hH]
    rw [hT]
    (first | refine wX ?_ | exact wZ)
    refine SpecF.call (hex_c d s hs hd) (fun w _ => trivial) fun v G hR => ?_
    cases hx : hexS (cntS d s.length) s with
    | error e =>
      rw [hx] at hR
      obtain rfl := hR
      (first | refine wX ?_ | exact wZ)
      exact fin_v rfl
    | ok l =>
      rw [hx] at hR
      obtain ⟨x, rfl, ob, cap, rfl, h5, h6⟩ := hR
      (first | refine wX ?_ | exact wZ)
      exact fin_p G ⟨_, rfl, ob, cap, rfl, h5, h6⟩ (fun w hw => hw.2.1)
  | false =>
    (first | refine wX ?_ | exact wZ)
    refine brd_eq (fun h1 => ?_) (fun h1 => ?_)
    · have hk : d.count = -2 := by simpa using h1
      have hT : textS d s = .ok (if d.letter == 90 && decide (1 < s.length) then (s.take 1 ++ List.replicate (1 - s.length) (if d.letter == 65 then 32 else 0)).set (1 - 1) 0 else s.take 1 ++ List.replicate (1 - s.length) (if d.letter == 65 then 32 else 0)) := by
        have hn : cntS d 0 = 1 := by unfold cntS; rw [if_pos hk]
        unfold textS
        rw [if_neg (by rw [hH]; simp), if_neg (by omega), hn]
      -- 1: how many bytes, 1: the same as an Int
      (first | refine wX ?_ | exact wZ)
      rw [h65]
      generalize hF : (if d.letter == 65 then (32 : UInt8) else 0) = F at hT
      have hfill : ∀ (b : Bool), (d.letter == 65) = b → F = if b then 32 else 0 := fun b h => by rw [← hF, h]
      cases h6 : d.letter == 65 with
      | true =>
        have hF2 := hfill _ h6
        have hFv : (F.toNat : Int) = 32 := by rw [hF2]; rfl
        (first | refine wX ?_ | exact wZ)
        refine ReadW.sl_h (min 1 s.length) rfl Tryd.underlying9 rfl rfl ⟨by (show minI 1 _ = _); (first | rw [hz] | skip); (unfold minI); (split <;> omega), Nat.min_le_right _ _⟩ ?_
        rw [← List.take_eq_take_min]
        (first | refine wX ?_ | exact wZ)
        refine EffW.bytesOf (s.take 1) rfl Tryd.underlying9 Tryd.underlying74 Tryd.underlying5 rfl (by rw [List.length_take]; omega) fun b0 cap0 _ _ => ?_
        have hLl : ∀ i, (s.take 1 ++ List.replicate i F).length = min 1 s.length + i := fun i => by simp
        (first | refine wX ?_ | exact wZ)
        refine LoopN.intro (Nat × Nat × Nat) (fun ⟨i, _, _⟩ => i ≤ 1 - s.length)
          (fun ⟨i, b, cap⟩ => mkS Tryd.f90.ntmps 0 [(1, .c (.v (.string (bs s)))), (2, .c (.lp 1 0)), (6, .c (.v (.int .i64 1))), (7, .c (.v (.int .u8 (32 : Int)))), (8, .c (.v (.slice (some ⟨b, 0, none⟩) (s.take 1 ++ List.replicate i F).length cap)))])
          (fun ⟨i, b, cap⟩ => [.fact fun _ => True, .blk 57 [.v (.int .u8 (d.letter.toNat : Int)), .v (.bool d.big), .v (.int .i64 d.count)], own (s.take 1 ++ List.replicate i F) b cap]) (fun ⟨i, _, _⟩ => 1 - s.length - i) [] rfl
          (fun _ => rfl) (fun _ => rfl) (fun _ _ => okHB_eq rfl) ⟨(0, b0, cap0), Nat.zero_le _, ?_, ?_⟩ ?_
        · (repeat' (first | exact trivial | refine And.intro (by with_reducible rfl) ?_ | (with_reducible exact wkC_refl _) | (with_reducible exact wkCs_refl _) | refine And.intro ?_ ?_))
          all_goals first | rfl | simp
        · exact ⟨wkE_refl _, wkE_refl _, .inl ⟨rfl, rfl, by simp, rfl, by simp, rfl⟩, wkH_nil _⟩
        rintro ⟨i, b, cap⟩ hi
        have hi2 := hLl i
        (first | refine wX ?_ | exact wZ)
        refine brd_dec (fun h7 => ?_) (fun h7 => ?_)
        · (first | refine wX ?_ | exact wZ)
          refine AppN.grow 2 (u8s (s.take 1 ++ List.replicate i F)) [_] rfl rfl ⟨Nat.le_refl 1, ⟨by show ((s.take 1 ++ List.replicate i F).length + 1) * 1 ≤ _; omega, by omega⟩, by show 1 ≠ 0; omega⟩ fun b' cap' h1 h2 => ?_
          (first | refine wX ?_ | exact wZ)
          refine ⟨(i + 1, b', cap'), by show i + 1 ≤ 1 - s.length; omega, by show 1 - s.length - (i + 1) < 1 - s.length - i; omega, ?_, ?_⟩
          · (repeat' (first | exact trivial | refine And.intro (by with_reducible rfl) ?_ | (with_reducible exact wkC_refl _) | (with_reducible exact wkCs_refl _) | refine And.intro ?_ ?_))
            all_goals rw [hLl, hLl]; rfl
          · exact ⟨wkE_refl _, wkE_refl _, .inl ⟨rfl, rfl, by rw [List.replicate_succ', ← List.append_assoc, ← hFv]; simp [u8s], rfl, by rw [hLl, hLl]; rfl, rfl⟩, wkH_nil _⟩
        · have hie : i = 1 - s.length := by omega
          rw [← hie] at hT
          generalize hL : s.take 1 ++ List.replicate i F = L at *
          (first | refine wX ?_ | exact wZ)
          rw [h90]
          cases h9 : d.letter == 90 with
          | false =>
            rw [h9, Bool.false_and, if_neg (by simp)] at hT
            rw [hT]
            (first | refine wX ?_ | exact wZ)
            exact fin_p (SlAt (some ⟨b, 0, none⟩) (L.length * 1) (u8s L)) ⟨_, rfl, bytesR_own _ _ _⟩ (fun w hw => hw.2.1)
          | true =>
            (first | refine wX ?_ | exact wZ)
            rw [hz]
            refine brd_dec (fun h10 => ?_) (fun h10 => ?_)
            · rw [h9, decide_eq_true (show 1 < s.length by omega), if_pos (by rfl)] at hT
              have hw1 : IntKind.i64.wrap (1 - 1) = ((1 - 1 : Nat) : Int) := by rw [wrap_i64 (by omega)]; omega
              (first | refine wX ?_ | exact wZ)
              first | refine brd_dec (fun _ => ?_) (fun h => absurd h (by omega)) | skip
              (first | refine wX ?_ | exact wZ)
              first | refine Nd.mk ⟨rfl, by rw [hw1]; omega, by rw [hw1]; omega⟩ ?_ | skip
              (first | refine wX ?_ | exact wZ)
              refine EffW.appTo (i := 2) (q := 1 - 1) (ys := [_]) (u8s (L.set (1 - 1) 0)) 1 rfl (ptr_lit rfl (by show (IntKind.i64.wrap (1 - 1)).toNat * 1 = 1 - 1; rw [hw1]; omega)) rfl rfl rfl rfl rfl (by show 1 - 1 + 1 ≤ L.length * 1; omega) (u8s_put 0 (by omega)) rfl ?_
              (first | refine wX ?_ | exact wZ)
              rw [hT]
              exact fin_p (SlAt (some ⟨b, 0, none⟩) (L.length * 1) (u8s (L.set (1 - 1) 0))) ⟨_, rfl, bytesR_cells (by simp) rfl⟩ (fun w hw => hw.2.1)
            · rw [h9, decide_eq_false (show ¬ 1 < s.length by omega), if_neg (by simp)] at hT
              rw [hT]
              (first | refine wX ?_ | exact wZ)
              exact fin_p (SlAt (some ⟨b, 0, none⟩) (L.length * 1) (u8s L)) ⟨_, rfl, bytesR_own _ _ _⟩ (fun w hw => hw.2.1)
      | false =>
        have hF2 := hfill _ h6
        have hFv : (F.toNat : Int) = 0 := by rw [hF2]; rfl
        (first | refine wX ?_ | exact wZ)
        refine ReadW.sl_h (min 1 s.length) rfl Tryd.underlying9 rfl rfl ⟨by (show minI 1 _ = _); (first | rw [hz] | skip); (unfold minI); (split <;> omega), Nat.min_le_right _ _⟩ ?_
        rw [← List.take_eq_take_min]
        (first | refine wX ?_ | exact wZ)
        refine EffW.bytesOf (s.take 1) rfl Tryd.underlying9 Tryd.underlying74 Tryd.underlying5 rfl (by rw [List.length_take]; omega) fun b0 cap0 _ _ => ?_
        have hLl : ∀ i, (s.take 1 ++ List.replicate i F).length = min 1 s.length + i := fun i => by simp
        (first | refine wX ?_ | exact wZ)
        refine LoopN.intro (Nat × Nat × Nat) (fun ⟨i, _, _⟩ => i ≤ 1 - s.length)
          (fun ⟨i, b, cap⟩ => mkS Tryd.f90.ntmps 0 [(1, .c (.v (.string (bs s)))), (2, .c (.lp 1 0)), (6, .c (.v (.int .i64 1))), (7, .c (.v (.int .u8 (0 : Int)))), (8, .c (.v (.slice (some ⟨b, 0, none⟩) (s.take 1 ++ List.replicate i F).length cap)))])
          (fun ⟨i, b, cap⟩ => [.fact fun _ => True, .blk 57 [.v (.int .u8 (d.letter.toNat : Int)), .v (.bool d.big), .v (.int .i64 d.count)], own (s.take 1 ++ List.replicate i F) b cap]) (fun ⟨i, _, _⟩ => 1 - s.length - i) [] rfl
          (fun _ => rfl) (fun _ => rfl) (fun _ _ => okHB_eq rfl) ⟨(0, b0, cap0), Nat.zero_le _, ?_, ?_⟩ ?_
        · (repeat' (first | exact trivial | refine And.intro (by with_reducible rfl) ?_ | (with_reducible exact wkC_refl _) | (with_reducible exact wkCs_refl _) | refine And.intro ?_ ?_))
          all_goals first | rfl | simp
        · exact ⟨wkE_refl _, wkE_refl _, .inl ⟨rfl, rfl, by simp, rfl, by simp, rfl⟩, wkH_nil _⟩
        rintro ⟨i, b, cap⟩ hi
        have hi2 := hLl i
        (first | refine wX ?_ | exact wZ)
        refine brd_dec (fun h7 => ?_) (fun h7 => ?_)
        · (first | refine wX ?_ | exact wZ)
          refine AppN.grow 2 (u8s (s.take 1 ++ List.replicate i F)) [_] rfl rfl ⟨Nat.le_refl 1, ⟨by show ((s.take 1 ++ List.replicate i F).length + 1) * 1 ≤ _; omega, by omega⟩, by show 1 ≠ 0; omega⟩ fun b' cap' h1 h2 => ?_
          (first | refine wX ?_ | exact wZ)
          refine ⟨(i + 1, b', cap'), by show i + 1 ≤ 1 - s.length; omega, by show 1 - s.length - (i + 1) < 1 - s.length - i; omega, ?_, ?_⟩
          · (repeat' (first | exact trivial | refine And.intro (by with_reducible rfl) ?_ | (with_reducible exact wkC_refl _) | (with_reducible exact wkCs_refl _) | refine And.intro ?_ ?_))
            all_goals rw [hLl, hLl]; rfl
          · exact ⟨wkE_refl _, wkE_refl _, .inl ⟨rfl, rfl, by rw [List.replicate_succ', ← List.append_assoc, ← hFv]; simp [u8s], rfl, by rw [hLl, hLl]; rfl, rfl⟩, wkH_nil _⟩
        · have hie : i = 1 - s.length := by omega
          rw [← hie] at hT
          generalize hL : s.take 1 ++ List.replicate i F = L at *
          (first | refine wX ?_ | exact wZ)
          rw [h90]
          cases h9 : d.letter == 90 with
          | false =>
            rw [h9, Bool.false_and, if_neg (by simp)] at hT
            rw [hT]
            (first | refine wX ?_ | exact wZ)
            exact fin_p (SlAt (some ⟨b, 0, none⟩) (L.length * 1) (u8s L)) ⟨_, rfl, bytesR_own _ _ _⟩ (fun w hw => hw.2.1)
          | true =>
            (first | refine wX ?_ | exact wZ)
            rw [hz]
            refine brd_dec (fun h10 => ?_) (fun h10 => ?_)
            · rw [h9, decide_eq_true (show 1 < s.length by omega), if_pos (by rfl)] at hT
              have hw1 : IntKind.i64.wrap (1 - 1) = ((1 - 1 : Nat) : Int) := by rw [wrap_i64 (by omega)]; omega
              (first | refine wX ?_ | exact wZ)
              first | refine brd_dec (fun _ => ?_) (fun h => absurd h (by omega)) | skip
              (first | refine wX ?_ | exact wZ)
              first | refine Nd.mk ⟨rfl, by rw [hw1]; omega, by rw [hw1]; omega⟩ ?_ | skip
              (first | refine wX ?_ | exact wZ)
              refine EffW.appTo (i := 2) (q := 1 - 1) (ys := [_]) (u8s (L.set (1 - 1) 0)) 1 rfl (ptr_lit rfl (by show (IntKind.i64.wrap (1 - 1)).toNat * 1 = 1 - 1; rw [hw1]; omega)) rfl rfl rfl rfl rfl (by show 1 - 1 + 1 ≤ L.length * 1; omega) (u8s_put 0 (by omega)) rfl ?_
              (first | refine wX ?_ | exact wZ)
              rw [hT]
              exact fin_p (SlAt (some ⟨b, 0, none⟩) (L.length * 1) (u8s (L.set (1 - 1) 0))) ⟨_, rfl, bytesR_cells (by simp) rfl⟩ (fun w hw => hw.2.1)
            · rw [h9, decide_eq_false (show ¬ 1 < s.length by omega), if_neg (by simp)] at hT
              rw [hT]
              (first | refine wX ?_ | exact wZ)
              exact fin_p (SlAt (some ⟨b, 0, none⟩) (L.length * 1) (u8s L)) ⟨_, rfl, bytesR_own _ _ _⟩ (fun w hw => hw.2.1)
    · have hk2 : d.count ≠ -2 := by simpa using h1
      (first | refine wX ?_ | exact wZ)
      refine brd_eq (fun h2 => ?_) (fun h2 => ?_)
      · have hk : d.count = -1 := by simpa using h2
        (first | refine wX ?_ | exact wZ)
        rw [h90]
        cases h9 : d.letter == 90 with
        | true =>
          have hT : textS d s = .ok (s ++ [0]) := by
            unfold textS
            rw [if_neg (by rw [hH]; simp), if_pos hk, if_pos h9]
          rw [hT]
          (first | refine wX ?_ | exact wZ)
          refine Nd.mk (by rw [hz]; show s.length + 1 < _; omega) ?_
          rw [show bs s ++ (⟨#[0]⟩ : ByteArray) = bs (s ++ [0]) from bs_app s [0]]
          (first | refine wX ?_ | exact wZ)
          refine EffW.bytesOf (s ++ [0]) rfl Tryd.underlying9 Tryd.underlying74 Tryd.underlying5 rfl (by simp; omega) fun b cap _ _ => ?_
          (first | refine wX ?_ | exact wZ)
          exact fin_p (SlAt (some ⟨b, 0, none⟩) ((s ++ [0]).length * 1) (u8s (s ++ [0]))) ⟨_, rfl, bytesR_own _ _ _⟩ (fun w hw => hw.2.1)
        | false =>
          have hT : textS d s = .ok (if d.letter == 90 && decide (s.length < s.length) then (s.take s.length ++ List.replicate (s.length - s.length) (if d.letter == 65 then 32 else 0)).set (s.length - 1) 0 else s.take s.length ++ List.replicate (s.length - s.length) (if d.letter == 65 then 32 else 0)) := by
            unfold textS
            rw [if_neg (by rw [hH]; simp), if_pos hk, if_neg (by rw [h9]; simp), h9]
            simp
          (first | refine wX ?_ | exact wZ)
          refine brd_eq (fun _ => ?_) (fun h => absurd h2 h)
          (first | refine wX ?_ | exact wZ)
          rw [hz]
          -- s.length: how many bytes, (s.length : Int): the same as an Int
          (first | refine wX ?_ | exact wZ)
          rw [h65]
          generalize hF : (if d.letter == 65 then (32 : UInt8) else 0) = F at hT
          have hfill : ∀ (b : Bool), (d.letter == 65) = b → F = if b then 32 else 0 := fun b h => by rw [← hF, h]
          cases h6 : d.letter == 65 with
          | true =>
            have hF2 := hfill _ h6
            have hFv : (F.toNat : Int) = 32 := by rw [hF2]; rfl
            (first | refine wX ?_ | exact wZ)
            refine ReadW.sl_h (min s.length s.length) rfl Tryd.underlying9 rfl rfl ⟨by (show minI (s.length : Int) _ = _); (first | rw [hz] | skip); (unfold minI); (split <;> omega), Nat.min_le_right _ _⟩ ?_
            rw [← List.take_eq_take_min]
            (first | refine wX ?_ | exact wZ)
            refine EffW.bytesOf (s.take s.length) rfl Tryd.underlying9 Tryd.underlying74 Tryd.underlying5 rfl (by rw [List.length_take]; omega) fun b0 cap0 _ _ => ?_
            have hLl : ∀ i, (s.take s.length ++ List.replicate i F).length = min s.length s.length + i := fun i => by simp
            (first | refine wX ?_ | exact wZ)
            refine LoopN.intro (Nat × Nat × Nat) (fun ⟨i, _, _⟩ => i ≤ s.length - s.length)
              (fun ⟨i, b, cap⟩ => mkS Tryd.f90.ntmps 0 [(1, .c (.v (.string (bs s)))), (2, .c (.lp 1 0)), (6, .c (.v (.int .i64 (s.length : Int)))), (7, .c (.v (.int .u8 (32 : Int)))), (8, .c (.v (.slice (some ⟨b, 0, none⟩) (s.take s.length ++ List.replicate i F).length cap)))])
              (fun ⟨i, b, cap⟩ => [.fact fun _ => True, .blk 57 [.v (.int .u8 (d.letter.toNat : Int)), .v (.bool d.big), .v (.int .i64 d.count)], own (s.take s.length ++ List.replicate i F) b cap]) (fun ⟨i, _, _⟩ => s.length - s.length - i) [] rfl
              (fun _ => rfl) (fun _ => rfl) (fun _ _ => okHB_eq rfl) ⟨(0, b0, cap0), Nat.zero_le _, ?_, ?_⟩ ?_
            · (repeat' (first | exact trivial | refine And.intro (by with_reducible rfl) ?_ | (with_reducible exact wkC_refl _) | (with_reducible exact wkCs_refl _) | refine And.intro ?_ ?_))
              all_goals first | rfl | simp
            · exact ⟨wkE_refl _, wkE_refl _, .inl ⟨rfl, rfl, by simp, rfl, by simp, rfl⟩, wkH_nil _⟩
            rintro ⟨i, b, cap⟩ hi
            have hi2 := hLl i
            (first | refine wX ?_ | exact wZ)
            refine brd_dec (fun h7 => ?_) (fun h7 => ?_)
            · (first | refine wX ?_ | exact wZ)
              refine AppN.grow 2 (u8s (s.take s.length ++ List.replicate i F)) [_] rfl rfl ⟨Nat.le_refl 1, ⟨by show ((s.take s.length ++ List.replicate i F).length + 1) * 1 ≤ _; omega, by omega⟩, by show 1 ≠ 0; omega⟩ fun b' cap' h1 h2 => ?_
              (first | refine wX ?_ | exact wZ)
              refine ⟨(i + 1, b', cap'), by show i + 1 ≤ s.length - s.length; omega, by show s.length - s.length - (i + 1) < s.length - s.length - i; omega, ?_, ?_⟩
              · (repeat' (first | exact trivial | refine And.intro (by with_reducible rfl) ?_ | (with_reducible exact wkC_refl _) | (with_reducible exact wkCs_refl _) | refine And.intro ?_ ?_))
                all_goals rw [hLl, hLl]; rfl
              · exact ⟨wkE_refl _, wkE_refl _, .inl ⟨rfl, rfl, by rw [List.replicate_succ', ← List.append_assoc, ← hFv]; simp [u8s], rfl, by rw [hLl, hLl]; rfl, rfl⟩, wkH_nil _⟩
            · have hie : i = s.length - s.length := by omega
              rw [← hie] at hT
              generalize hL : s.take s.length ++ List.replicate i F = L at *
              (first | refine wX ?_ | exact wZ)
              rw [h90]
              cases h9 : d.letter == 90 with
              | false =>
                rw [h9, Bool.false_and, if_neg (by simp)] at hT
                rw [hT]
                (first | refine wX ?_ | exact wZ)
                exact fin_p (SlAt (some ⟨b, 0, none⟩) (L.length * 1) (u8s L)) ⟨_, rfl, bytesR_own _ _ _⟩ (fun w hw => hw.2.1)
              | true =>
                (first | refine wX ?_ | exact wZ)
                rw [hz]
                refine brd_dec (fun h10 => ?_) (fun h10 => ?_)
                · rw [h9, decide_eq_true (show s.length < s.length by omega), if_pos (by rfl)] at hT
                  have hw1 : IntKind.i64.wrap ((s.length : Int) - 1) = ((s.length - 1 : Nat) : Int) := by rw [wrap_i64 (by omega)]; omega
                  (first | refine wX ?_ | exact wZ)
                  first | refine brd_dec (fun _ => ?_) (fun h => absurd h (by omega)) | skip
                  (first | refine wX ?_ | exact wZ)
                  first | refine Nd.mk ⟨rfl, by rw [hw1]; omega, by rw [hw1]; omega⟩ ?_ | skip
                  (first | refine wX ?_ | exact wZ)
                  refine EffW.appTo (i := 2) (q := s.length - 1) (ys := [_]) (u8s (L.set (s.length - 1) 0)) 1 rfl (ptr_lit rfl (by show (IntKind.i64.wrap ((s.length : Int) - 1)).toNat * 1 = s.length - 1; rw [hw1]; omega)) rfl rfl rfl rfl rfl (by show s.length - 1 + 1 ≤ L.length * 1; omega) (u8s_put 0 (by omega)) rfl ?_
                  (first | refine wX ?_ | exact wZ)
                  rw [hT]
                  exact fin_p (SlAt (some ⟨b, 0, none⟩) (L.length * 1) (u8s (L.set (s.length - 1) 0))) ⟨_, rfl, bytesR_cells (by simp) rfl⟩ (fun w hw => hw.2.1)
                · rw [h9, decide_eq_false (show ¬ s.length < s.length by omega), if_neg (by simp)] at hT
                  rw [hT]
                  (first | refine wX ?_ | exact wZ)
                  exact fin_p (SlAt (some ⟨b, 0, none⟩) (L.length * 1) (u8s L)) ⟨_, rfl, bytesR_own _ _ _⟩ (fun w hw => hw.2.1)
          | false =>
            have hF2 := hfill _ h6
            have hFv : (F.toNat : Int) = 0 := by rw [hF2]; rfl
            (first | refine wX ?_ | exact wZ)
            refine ReadW.sl_h (min s.length s.length) rfl Tryd.underlying9 rfl rfl ⟨by (show minI (s.length : Int) _ = _); (first | rw [hz] | skip); (unfold minI); (split <;> omega), Nat.min_le_right _ _⟩ ?_
            rw [← List.take_eq_take_min]
            (first | refine wX ?_ | exact wZ)
            refine EffW.bytesOf (s.take s.length) rfl Tryd.underlying9 Tryd.underlying74 Tryd.underlying5 rfl (by rw [List.length_take]; omega) fun b0 cap0 _ _ => ?_
            have hLl : ∀ i, (s.take s.length ++ List.replicate i F).length = min s.length s.length + i := fun i => by simp
            (first | refine wX ?_ | exact wZ)
            refine LoopN.intro (Nat × Nat × Nat) (fun ⟨i, _, _⟩ => i ≤ s.length - s.length)
              (fun ⟨i, b, cap⟩ => mkS Tryd.f90.ntmps 0 [(1, .c (.v (.string (bs s)))), (2, .c (.lp 1 0)), (6, .c (.v (.int .i64 (s.length : Int)))), (7, .c (.v (.int .u8 (0 : Int)))), (8, .c (.v (.slice (some ⟨b, 0, none⟩) (s.take s.length ++ List.replicate i F).length cap)))])
              (fun ⟨i, b, cap⟩ => [.fact fun _ => True, .blk 57 [.v (.int .u8 (d.letter.toNat : Int)), .v (.bool d.big), .v (.int .i64 d.count)], own (s.take s.length ++ List.replicate i F) b cap]) (fun ⟨i, _, _⟩ => s.length - s.length - i) [] rfl
              (fun _ => rfl) (fun _ => rfl) (fun _ _ => okHB_eq rfl) ⟨(0, b0, cap0), Nat.zero_le _, ?_, ?_⟩ ?_
            · (repeat' (first | exact trivial | refine And.intro (by with_reducible rfl) ?_ | (with_reducible exact wkC_refl _) | (with_reducible exact wkCs_refl _) | refine And.intro ?_ ?_))
              all_goals first | rfl | simp
            · exact ⟨wkE_refl _, wkE_refl _, .inl ⟨rfl, rfl, by simp, rfl, by simp, rfl⟩, wkH_nil _⟩
            rintro ⟨i, b, cap⟩ hi
            have hi2 := hLl i
            (first | refine wX ?_ | exact wZ)
            refine brd_dec (fun h7 => ?_) (fun h7 => ?_)
            · (first | refine wX ?_ | exact wZ)
              refine AppN.grow 2 (u8s (s.take s.length ++ List.replicate i F)) [_] rfl rfl ⟨Nat.le_refl 1, ⟨by show ((s.take s.length ++ List.replicate i F).length + 1) * 1 ≤ _; omega, by omega⟩, by show 1 ≠ 0; omega⟩ fun b' cap' h1 h2 => ?_
              (first | refine wX ?_ | exact wZ)
              refine ⟨(i + 1, b', cap'), by show i + 1 ≤ s.length - s.length; omega, by show s.length - s.length - (i + 1) < s.length - s.length - i; omega, ?_, ?_⟩
              · (repeat' (first | exact trivial | refine And.intro (by with_reducible rfl) ?_ | (with_reducible exact wkC_refl _) | (with_reducible exact wkCs_refl _) | refine And.intro ?_ ?_))
                all_goals rw [hLl, hLl]; rfl
              · exact ⟨wkE_refl _, wkE_refl _, .inl ⟨rfl, rfl, by rw [List.replicate_succ', ← List.append_assoc, ← hFv]; simp [u8s], rfl, by rw [hLl, hLl]; rfl, rfl⟩, wkH_nil _⟩
            · have hie : i = s.length - s.length := by omega
              rw [← hie] at hT
              generalize hL : s.take s.length ++ List.replicate i F = L at *
              (first | refine wX ?_ | exact wZ)
              rw [h90]
              cases h9 : d.letter == 90 with
              | false =>
                rw [h9, Bool.false_and, if_neg (by simp)] at hT
                rw [hT]
                (first | refine wX ?_ | exact wZ)
                exact fin_p (SlAt (some ⟨b, 0, none⟩) (L.length * 1) (u8s L)) ⟨_, rfl, bytesR_own _ _ _⟩ (fun w hw => hw.2.1)
              | true =>
                (first | refine wX ?_ | exact wZ)
                rw [hz]
                refine brd_dec (fun h10 => ?_) (fun h10 => ?_)
                · rw [h9, decide_eq_true (show s.length < s.length by omega), if_pos (by rfl)] at hT
                  have hw1 : IntKind.i64.wrap ((s.length : Int) - 1) = ((s.length - 1 : Nat) : Int) := by rw [wrap_i64 (by omega)]; omega
                  (first | refine wX ?_ | exact wZ)
                  first | refine brd_dec (fun _ => ?_) (fun h => absurd h (by omega)) | skip
                  (first | refine wX ?_ | exact wZ)
                  first | refine Nd.mk ⟨rfl, by rw [hw1]; omega, by rw [hw1]; omega⟩ ?_ | skip
                  (first | refine wX ?_ | exact wZ)
                  refine EffW.appTo (i := 2) (q := s.length - 1) (ys := [_]) (u8s (L.set (s.length - 1) 0)) 1 rfl (ptr_lit rfl (by show (IntKind.i64.wrap ((s.length : Int) - 1)).toNat * 1 = s.length - 1; rw [hw1]; omega)) rfl rfl rfl rfl rfl (by show s.length - 1 + 1 ≤ L.length * 1; omega) (u8s_put 0 (by omega)) rfl ?_
                  (first | refine wX ?_ | exact wZ)
                  rw [hT]
                  exact fin_p (SlAt (some ⟨b, 0, none⟩) (L.length * 1) (u8s (L.set (s.length - 1) 0))) ⟨_, rfl, bytesR_cells (by simp) rfl⟩ (fun w hw => hw.2.1)
                · rw [h9, decide_eq_false (show ¬ s.length < s.length by omega), if_neg (by simp)] at hT
                  rw [hT]
                  (first | refine wX ?_ | exact wZ)
                  exact fin_p (SlAt (some ⟨b, 0, none⟩) (L.length * 1) (u8s L)) ⟨_, rfl, bytesR_own _ _ _⟩ (fun w hw => hw.2.1)
      · have hk1 : d.count ≠ -1 := by simpa using h2
        have hd3 : 1 ≤ d.count ∧ d.count ≤ 1000 := by omega
        obtain ⟨n, hk⟩ := Int.eq_ofNat_of_zero_le (show 0 ≤ d.count by omega)
        have hn2 : 1 ≤ n ∧ n ≤ 1000 := by omega
        have hT : textS d s = .ok (if d.letter == 90 && decide (n < s.length) then (s.take n ++ List.replicate (n - s.length) (if d.letter == 65 then 32 else 0)).set (n - 1) 0 else s.take n ++ List.replicate (n - s.length) (if d.letter == 65 then 32 else 0)) := by
          have hn : cntS d 0 = n := by unfold cntS; rw [if_neg hk2, if_neg hk1, hk]; rfl
          unfold textS
          rw [if_neg (by rw [hH]; simp), if_neg hk1, hn]
        (first | refine wX ?_ | exact wZ)
        refine brd_eq (fun h => absurd h h2) (fun _ => ?_)
        (first | refine wX ?_ | exact wZ)
        rw [hk]
        -- n: how many bytes, (n : Int): the same as an Int
        (first | refine wX ?_ | exact wZ)
        rw [h65]
        generalize hF : (if d.letter == 65 then (32 : UInt8) else 0) = F at hT
        have hfill : ∀ (b : Bool), (d.letter == 65) = b → F = if b then 32 else 0 := fun b h => by rw [← hF, h]
        cases h6 : d.letter == 65 with
        | true =>
          have hF2 := hfill _ h6
          have hFv : (F.toNat : Int) = 32 := by rw [hF2]; rfl
          (first | refine wX ?_ | exact wZ)
          refine ReadW.sl_h (min n s.length) rfl Tryd.underlying9 rfl rfl ⟨by (show minI (n : Int) _ = _); (first | rw [hz] | skip); (unfold minI); (split <;> omega), Nat.min_le_right _ _⟩ ?_
          rw [← List.take_eq_take_min]
          (first | refine wX ?_ | exact wZ)
          refine EffW.bytesOf (s.take n) rfl Tryd.underlying9 Tryd.underlying74 Tryd.underlying5 rfl (by rw [List.length_take]; omega) fun b0 cap0 _ _ => ?_
          have hLl : ∀ i, (s.take n ++ List.replicate i F).length = min n s.length + i := fun i => by simp
          (first | refine wX ?_ | exact wZ)
          refine LoopN.intro (Nat × Nat × Nat) (fun ⟨i, _, _⟩ => i ≤ n - s.length)
            (fun ⟨i, b, cap⟩ => mkS Tryd.f90.ntmps 0 [(1, .c (.v (.string (bs s)))), (2, .c (.lp 1 0)), (6, .c (.v (.int .i64 (n : Int)))), (7, .c (.v (.int .u8 (32 : Int)))), (8, .c (.v (.slice (some ⟨b, 0, none⟩) (s.take n ++ List.replicate i F).length cap)))])
            (fun ⟨i, b, cap⟩ => [.fact fun _ => True, .blk 57 [.v (.int .u8 (d.letter.toNat : Int)), .v (.bool d.big), .v (.int .i64 d.count)], own (s.take n ++ List.replicate i F) b cap]) (fun ⟨i, _, _⟩ => n - s.length - i) [] rfl
            (fun _ => rfl) (fun _ => rfl) (fun _ _ => okHB_eq rfl) ⟨(0, b0, cap0), Nat.zero_le _, ?_, ?_⟩ ?_
          · (repeat' (first | exact trivial | refine And.intro (by with_reducible rfl) ?_ | (with_reducible exact wkC_refl _) | (with_reducible exact wkCs_refl _) | refine And.intro ?_ ?_))
            all_goals first | rfl | simp
          · exact ⟨wkE_refl _, wkE_refl _, .inl ⟨rfl, rfl, by simp, rfl, by simp, rfl⟩, wkH_nil _⟩
          rintro ⟨i, b, cap⟩ hi
          have hi2 := hLl i
          (first | refine wX ?_ | exact wZ)
          refine brd_dec (fun h7 => ?_) (fun h7 => ?_)
          · (first | refine wX ?_ | exact wZ)
            refine AppN.grow 2 (u8s (s.take n ++ List.replicate i F)) [_] rfl rfl ⟨Nat.le_refl 1, ⟨by show ((s.take n ++ List.replicate i F).length + 1) * 1 ≤ _; omega, by omega⟩, by show 1 ≠ 0; omega⟩ fun b' cap' h1 h2 => ?_
            (first | refine wX ?_ | exact wZ)
            refine ⟨(i + 1, b', cap'), by show i + 1 ≤ n - s.length; omega, by show n - s.length - (i + 1) < n - s.length - i; omega, ?_, ?_⟩
            · (repeat' (first | exact trivial | refine And.intro (by with_reducible rfl) ?_ | (with_reducible exact wkC_refl _) | (with_reducible exact wkCs_refl _) | refine And.intro ?_ ?_))
              all_goals rw [hLl, hLl]; rfl
            · exact ⟨wkE_refl _, wkE_refl _, .inl ⟨rfl, rfl, by rw [List.replicate_succ', ← List.append_assoc, ← hFv]; simp [u8s], rfl, by rw [hLl, hLl]; rfl, rfl⟩, wkH_nil _⟩
          · have hie : i = n - s.length := by omega
            rw [← hie] at hT
            generalize hL : s.take n ++ List.replicate i F = L at *
            (first | refine wX ?_ | exact wZ)
            rw [h90]
            cases h9 : d.letter == 90 with
            | false =>
              rw [h9, Bool.false_and, if_neg (by simp)] at hT
              rw [hT]
              (first | refine wX ?_ | exact wZ)
              exact fin_p (SlAt (some ⟨b, 0, none⟩) (L.length * 1) (u8s L)) ⟨_, rfl, bytesR_own _ _ _⟩ (fun w hw => hw.2.1)
            | true =>
              (first | refine wX ?_ | exact wZ)
              rw [hz]
              refine brd_dec (fun h10 => ?_) (fun h10 => ?_)
              · rw [h9, decide_eq_true (show n < s.length by omega), if_pos (by rfl)] at hT
                have hw1 : IntKind.i64.wrap ((n : Int) - 1) = ((n - 1 : Nat) : Int) := by rw [wrap_i64 (by omega)]; omega
                (first | refine wX ?_ | exact wZ)
                first | refine brd_dec (fun _ => ?_) (fun h => absurd h (by omega)) | skip
                (first | refine wX ?_ | exact wZ)
                first | refine Nd.mk ⟨rfl, by rw [hw1]; omega, by rw [hw1]; omega⟩ ?_ | skip
                (first | refine wX ?_ | exact wZ)
                refine EffW.appTo (i := 2) (q := n - 1) (ys := [_]) (u8s (L.set (n - 1) 0)) 1 rfl (ptr_lit rfl (by show (IntKind.i64.wrap ((n : Int) - 1)).toNat * 1 = n - 1; rw [hw1]; omega)) rfl rfl rfl rfl rfl (by show n - 1 + 1 ≤ L.length * 1; omega) (u8s_put 0 (by omega)) rfl ?_
                (first | refine wX ?_ | exact wZ)
                rw [hT]
                exact fin_p (SlAt (some ⟨b, 0, none⟩) (L.length * 1) (u8s (L.set (n - 1) 0))) ⟨_, rfl, bytesR_cells (by simp) rfl⟩ (fun w hw => hw.2.1)
              · rw [h9, decide_eq_false (show ¬ n < s.length by omega), if_neg (by simp)] at hT
                rw [hT]
                (first | refine wX ?_ | exact wZ)
                exact fin_p (SlAt (some ⟨b, 0, none⟩) (L.length * 1) (u8s L)) ⟨_, rfl, bytesR_own _ _ _⟩ (fun w hw => hw.2.1)
        | false =>
          have hF2 := hfill _ h6
          have hFv : (F.toNat : Int) = 0 := by rw [hF2]; rfl
          (first | refine wX ?_ | exact wZ)
          refine ReadW.sl_h (min n s.length) rfl Tryd.underlying9 rfl rfl ⟨by (show minI (n : Int) _ = _); (first | rw [hz] | skip); (unfold minI); (split <;> omega), Nat.min_le_right _ _⟩ ?_
          rw [← List.take_eq_take_min]
          (first | refine wX ?_ | exact wZ)
          refine EffW.bytesOf (s.take n) rfl Tryd.underlying9 Tryd.underlying74 Tryd.underlying5 rfl (by rw [List.length_take]; omega) fun b0 cap0 _ _ => ?_
          have hLl : ∀ i, (s.take n ++ List.replicate i F).length = min n s.length + i := fun i => by simp
          (first | refine wX ?_ | exact wZ)
          refine LoopN.intro (Nat × Nat × Nat) (fun ⟨i, _, _⟩ => i ≤ n - s.length)
            (fun ⟨i, b, cap⟩ => mkS Tryd.f90.ntmps 0 [(1, .c (.v (.string (bs s)))), (2, .c (.lp 1 0)), (6, .c (.v (.int .i64 (n : Int)))), (7, .c (.v (.int .u8 (0 : Int)))), (8, .c (.v (.slice (some ⟨b, 0, none⟩) (s.take n ++ List.replicate i F).length cap)))])
            (fun ⟨i, b, cap⟩ => [.fact fun _ => True, .blk 57 [.v (.int .u8 (d.letter.toNat : Int)), .v (.bool d.big), .v (.int .i64 d.count)], own (s.take n ++ List.replicate i F) b cap]) (fun ⟨i, _, _⟩ => n - s.length - i) [] rfl
            (fun _ => rfl) (fun _ => rfl) (fun _ _ => okHB_eq rfl) ⟨(0, b0, cap0), Nat.zero_le _, ?_, ?_⟩ ?_
          · (repeat' (first | exact trivial | refine And.intro (by with_reducible rfl) ?_ | (with_reducible exact wkC_refl _) | (with_reducible exact wkCs_refl _) | refine And.intro ?_ ?_))
            all_goals first | rfl | simp
          · exact ⟨wkE_refl _, wkE_refl _, .inl ⟨rfl, rfl, by simp, rfl, by simp, rfl⟩, wkH_nil _⟩
          rintro ⟨i, b, cap⟩ hi
          have hi2 := hLl i
          (first | refine wX ?_ | exact wZ)
          refine brd_dec (fun h7 => ?_) (fun h7 => ?_)
          · (first | refine wX ?_ | exact wZ)
            refine AppN.grow 2 (u8s (s.take n ++ List.replicate i F)) [_] rfl rfl ⟨Nat.le_refl 1, ⟨by show ((s.take n ++ List.replicate i F).length + 1) * 1 ≤ _; omega, by omega⟩, by show 1 ≠ 0; omega⟩ fun b' cap' h1 h2 => ?_
            (first | refine wX ?_ | exact wZ)
            refine ⟨(i + 1, b', cap'), by show i + 1 ≤ n - s.length; omega, by show n - s.length - (i + 1) < n - s.length - i; omega, ?_, ?_⟩
            · (repeat' (first | exact trivial | refine And.intro (by with_reducible rfl) ?_ | (with_reducible exact wkC_refl _) | (with_reducible exact wkCs_refl _) | refine And.intro ?_ ?_))
              all_goals rw [hLl, hLl]; rfl
            · exact ⟨wkE_refl _, wkE_refl _, .inl ⟨rfl, rfl, by rw [List.replicate_succ', ← List.append_assoc, ← hFv]; simp [u8s], rfl, by rw [hLl, hLl]; rfl, rfl⟩, wkH_nil _⟩
          · have hie : i = n - s.length := by omega
            rw [← hie] at hT
            generalize hL : s.take n ++ List.replicate i F = L at *
            (first | refine wX ?_ | exact wZ)
            rw [h90]
            cases h9 : d.letter == 90 with
            | false =>
              rw [h9, Bool.false_and, if_neg (by simp)] at hT
              rw [hT]
              (first | refine wX ?_ | exact wZ)
              exact fin_p (SlAt (some ⟨b, 0, none⟩) (L.length * 1) (u8s L)) ⟨_, rfl, bytesR_own _ _ _⟩ (fun w hw => hw.2.1)
            | true =>
              (first | refine wX ?_ | exact wZ)
              rw [hz]
              refine brd_dec (fun h10 => ?_) (fun h10 => ?_)
              · rw [h9, decide_eq_true (show n < s.length by omega), if_pos (by rfl)] at hT
                have hw1 : IntKind.i64.wrap ((n : Int) - 1) = ((n - 1 : Nat) : Int) := by rw [wrap_i64 (by omega)]; omega
                (first | refine wX ?_ | exact wZ)
                first | refine brd_dec (fun _ => ?_) (fun h => absurd h (by omega)) | skip
                (first | refine wX ?_ | exact wZ)
                first | refine Nd.mk ⟨rfl, by rw [hw1]; omega, by rw [hw1]; omega⟩ ?_ | skip
                (first | refine wX ?_ | exact wZ)
                refine EffW.appTo (i := 2) (q := n - 1) (ys := [_]) (u8s (L.set (n - 1) 0)) 1 rfl (ptr_lit rfl (by show (IntKind.i64.wrap ((n : Int) - 1)).toNat * 1 = n - 1; rw [hw1]; omega)) rfl rfl rfl rfl rfl (by show n - 1 + 1 ≤ L.length * 1; omega) (u8s_put 0 (by omega)) rfl ?_
                (first | refine wX ?_ | exact wZ)
                rw [hT]
                exact fin_p (SlAt (some ⟨b, 0, none⟩) (L.length * 1) (u8s (L.set (n - 1) 0))) ⟨_, rfl, bytesR_cells (by simp) rfl⟩ (fun w hw => hw.2.1)
              · rw [h9, decide_eq_false (show ¬ n < s.length by omega), if_neg (by simp)] at hT
                rw [hT]
                (first | refine wX ?_ | exact wZ)
                exact fin_p (SlAt (some ⟨b, 0, none⟩) (L.length * 1) (u8s L)) ⟨_, rfl, bytesR_own _ _ _⟩ (fun w hw => hw.2.1)
end Go.Proofs.YtjkchonpnocffaaDoor

/-
  Plain Lean: what a directive of a form may be.
-/
namespace Go.Pack
/-- A count that a letter may have. -/
def CntOk (c : UInt8) (n : Int) : Prop := n = -1 ∧ c ≠ 120 ∧ c ≠ 64 ∨ n = -2 ∨ 0 ≤ n ∧ n ≤ 1000 ∧ (c ≠ 64 → 1 ≤ n)
theorem num_ge : ∀ (ds : B) (n : Nat), n ≤ ds.foldl (fun n c => n * 10 + (c.toNat - 48)) n
  | [], n => Nat.le_refl n
  | a :: ds, n => Nat.le_trans (by omega) (num_ge ds (n * 10 + (a.toNat - 48)))
theorem cnt_ok {c : UInt8} {r : B} {x : Int × B} (h : cnt c r = some x) : CntOk c x.1 := by
  unfold cnt at h
  split at h
  · split at h
    · cases h
    · rename_i h1
      cases h
      simp at h1
      exact .inl ⟨rfl, h1⟩
  split at h
  · cases h; exact .inr (.inl rfl)
  split at h
  · rename_i h0 h1
    cases h
    refine .inr (.inr ⟨by simp, ?_, fun hc => ?_⟩)
    · unfold fine at h1
      simp only [Bool.and_eq_true, decide_eq_true_eq] at h1
      have := h1.1
      simp only
      omega
    · unfold fine at h1
      have hall := tw_all r
      generalize r.takeWhile dig = ds at *
      cases ds with
      | nil => exact absurd rfl h0
      | cons a ds =>
        simp only [Bool.and_eq_true, Bool.or_eq_true, decide_eq_true_eq, List.head?_cons, bne_iff_ne, ne_eq, beq_iff_eq] at h1
        rcases h1.2 with h2 | h2
        · have hda := hall a List.mem_cons_self
          unfold dig at hda
          rw [Bool.and_eq_true, decide_eq_true_eq] at hda
          have h48 : (48 : UInt8).toNat ≤ a.toNat := UInt8.le_iff_toNat_le.1 hda.1
          have hne : a.toNat ≠ 48 := fun h => h2 (by rw [show a = 48 from UInt8.toNat_inj.1 h])
          have := num_ge ds (0 * 10 + (a.toNat - 48))
          have e : num (a :: ds) = ds.foldl (fun n c => n * 10 + (c.toNat - 48)) (0 * 10 + (a.toNat - 48)) := rfl
          have h48' : 48 ≤ a.toNat := h48
          simp only
          omega
        · exact absurd h2.1 hc
  · cases h
def DirOk (d : Dir) : Prop := letters.contains d.letter = true ∧ CntOk d.letter d.count
theorem one_ok {c : UInt8} {r : B} {x : Dir × B} (h : one c r = some x) : DirOk x.1 := by
  unfold one at h
  split at h
  · rename_i hl
    split at h
    · split at h
      · obtain ⟨y, hy, rfl⟩ := Option.map_eq_some_iff.1 h
        exact ⟨hl, cnt_ok hy⟩
      · cases h
    · obtain ⟨y, hy, rfl⟩ := Option.map_eq_some_iff.1 h
      exact ⟨hl, cnt_ok hy⟩
  · cases h
theorem dirsF_ok : ∀ (f : Nat) (s : B) (l : List Dir), dirsF f s = some l → ∀ d ∈ l, DirOk d
  | 0, _, _, h => by cases h
  | _ + 1, [], l, h => by cases h; intro d hd; cases hd
  | f + 1, c :: r, l, h => by
    unfold dirsF at h
    split at h
    · exact dirsF_ok f r l h
    · cases ho : one c r with
      | none => rw [ho] at h; cases h
      | some x =>
        rw [ho] at h
        obtain ⟨m, hm, rfl⟩ := Option.map_eq_some_iff.1 h
        intro d hd
        rcases List.mem_cons.1 hd with rfl | hd
        · exact one_ok ho
        · exact dirsF_ok f x.2 m hm d hd
theorem forms_ok {s : B} {l : List Dir} (h : forms s = some l) : l.length ≤ 50 ∧ ∀ d ∈ l, DirOk d := by
  unfold forms at h
  split at h
  · rename_i m hm
    split at h
    · rename_i h50
      cases h
      exact ⟨h50, dirsF_ok _ s _ hm⟩
    · cases h
  · cases h
end Go.Pack

/-
  Contract: the next item (program).
-/
namespace Go.Proofs.YtjkchonpnocffaaDoor
open Go.AX Go.RowKit Go.Pack
set_option maxRecDepth 20000

def itemC (x : Pack.Item) : List Value := [.bool x.isText, .int .i64 x.int, .string (bs x.text)]
def itemsC (l : List Pack.Item) : List Value := l.flatMap itemC
theorem itemsC_get (l : List Pack.Item) (i j : Nat) (hj : j < 3) {x : Pack.Item} (hx : l[i]? = some x) : (itemsC l)[i * 3 + j]? = (itemC x)[j]? := by
  unfold itemsC
  rw [flat_get (g := itemC) (m := 3) (fun _ => rfl) l i j hj, hx]
  rfl
/-- The items lie in memory. -/
def ItemsF (ia : Option Addr) (items : List Pack.Item) (w : World) : Prop := SlAt ia (items.length * 3) (itemsC items) w
/-- A packer: what is written, the items, how many are used. -/
def pkE (pb : Nat) (out : Option Nat) (len cap : Nat) (ia : Option Addr) (n icap used : Nat) : Ent := .app 92 3 [.slice (at0 out) len cap, .slice ia n icap, .int .i64 (used : Int)] (some ⟨pb, 0, none⟩) 1 1
/-- What next gives: the item, the error, how many are used then. -/
def nextS (items : List Pack.Item) (text : Bool) (used : Nat) : Pack.Item × Int × Nat := match items[used]? with
  | none => (⟨false, 0, []⟩, 14, used)
  | some x => if x.isText != text then (⟨false, 0, []⟩, 1, used + 1) else (x, 0, used + 1)
theorem next_c (pb : Nat) (out : Option Nat) (len cap : Nat) (ia : Option Addr) (items : List Pack.Item) (icap used : Nat) (t : Bool) (hia : items ≠ [] → ia.isSome = true) (hu : used ≤ items.length) (hl : items.length ≤ 100000) :
    SpecH Tryd.prog 89 [.c (.v (.pointer (some ⟨pb, 0, none⟩))), .c (.v (.bool t))] [.fact (ItemsF ia items), pkE pb out len cap ia items.length icap used]
      (RetG (ι := Unit) (fun _ => True) (fun _ => .tuple #[.agg (itemC (nextS items t used).1).toArray, .int .i64 (nextS items t used).2.1]) fun _ => [.fact (ItemsF ia items), pkE pb out len cap ia items.length icap (nextS items t used).2.2]) := by
  refine ownC hm Tryd.func89 (by kernel_rfl) rfl rfl (fun _ _ => okHB_eq rfl) (fun _ _ => Nat.le_refl _) ?_
  (first | refine wX ?_ | exact wZ)
  refine LdN.one (a := some ⟨pb, 0, none⟩) (q := 2) (.int .i64 (used : Int)) rfl (fun w hw => hw.2.1) rfl ?_
  (first | refine wX ?_ | exact wZ)
  refine LdN.one (a := some ⟨pb, 0, none⟩) (q := 1) (.slice ia items.length icap) rfl (fun w hw => hw.2.1) rfl ?_
  (first | refine wX ?_ | exact wZ)
  refine brd_eq (fun h1 => ?_) (fun h1 => ?_)
  · have hn : items[used]? = none := List.getElem?_eq_none (by omega)
    unfold nextS
    rw [hn]
    (first | refine wX ?_ | exact wZ)
    exact ⟨(), trivial, rfl, wkE_refl _, wkE_refl _, wkH_nil _⟩
  · obtain ⟨x, hx⟩ : ∃ x, items[used]? = some x := ⟨_, List.getElem?_eq_getElem (by omega)⟩
    (first | refine wX ?_ | exact wZ)
    refine DrawN.plan [0, 4] [(1, 1), (2, 1), (3, 1), (5, 1), (6, 1), (7, 1), (8, 1), (9, 1)] [(10, 2), (11, 0)] (by decide +kernel) ?_
    (first | refine wX ?_ | exact wZ)
    refine LdN.one (a := some ⟨pb, 0, none⟩) (q := 1) (.slice ia items.length icap) rfl (fun w hw => hw.2.1) rfl ?_
    (first | refine wX ?_ | exact wZ)
    refine LdN.one (a := some ⟨pb, 0, none⟩) (q := 2) (.int .i64 (used : Int)) rfl (fun w hw => hw.2.1) rfl ?_
    (first | refine wX ?_ | exact wZ)
    refine Nd.mk ⟨hia (fun h => by rw [h] at hx; cases hx), by omega, by omega⟩ ?_
    (first | refine wX ?_ | exact wZ)
    refine LdN.agg (itemC x) rfl (fun w hw => hw.1) rfl (fun j hj => by
      rw [Int.toNat_natCast]
      exact itemsC_get items used j hj hx) ?_
    (first | refine wX ?_ | exact wZ)
    refine LdN.one (a := some ⟨pb, 0, none⟩) (q := 2) (.int .i64 (used : Int)) rfl (fun w hw => hw.2.1) rfl ?_
    (first | refine wX ?_ | exact wZ)
    refine EffW.appTo (i := 1) (q := 2) (ys := [_]) [.slice (at0 out) len cap, .slice ia items.length icap, .int .i64 ((used + 1 : Nat) : Int)] 3 rfl rfl rfl rfl rfl rfl rfl (Nat.le_of_ble_eq_true rfl) (by
      show [_, _, Value.int .i64 (IntKind.i64.wrap ((used : Int) + 1))] = _
      rw [wrap_i64 (by omega)]
      rfl) rfl ?_
    (first | refine wX ?_ | exact wZ)
    cases hb : (x.isText == t) with
    | false =>
      have hN : nextS items t used = (⟨false, 0, []⟩, 1, used + 1) := by unfold nextS; rw [hx]; simp only; rw [if_pos (by rw [bne, hb]; rfl)]
      rw [hN]
      (first | refine wX ?_ | exact wZ)
      exact ⟨(), trivial, rfl, wkE_refl _, wkE_refl _, wkH_nil _⟩
    | true =>
      have hN : nextS items t used = (x, 0, used + 1) := by unfold nextS; rw [hx]; simp only; rw [if_neg (by rw [bne, hb]; simp)]
      rw [hN]
      (first | refine wX ?_ | exact wZ)
      exact ⟨(), trivial, rfl, wkE_refl _, wkE_refl _, wkH_nil _⟩
end Go.Proofs.YtjkchonpnocffaaDoor

/-
  Plain Lean: what is packed is not too long, items are not used twice.
-/
namespace Go.Pack
theorem fin_fit {o l : B} {v : Nat} {r : B × Nat} (h : (if o.length + l.length > 100000 then Except.error 5 else .ok (o ++ l, v) : Except Int (B × Nat)) = .ok r) : r.1.length ≤ 100000 ∧ r.2 = v := by
  split at h
  · cases h
  · cases h
    exact ⟨by simp only [List.length_append]; omega, rfl⟩
theorem oneS_fit {d : Dir} {items : List Item} {out : B} {used : Nat} {r : B × Nat} (hu : used ≤ items.length) (h : oneS d items out used = .ok r) : r.1.length ≤ 100000 ∧ r.2 ≤ items.length := by
  unfold oneS at h
  simp only at h
  split at h
  · have := fin_fit h
    omega
  split at h
  · have := fin_fit h
    omega
  split at h
  · cases h
  · rename_i x hx
    have hlt : used < items.length := by
      apply Classical.byContradiction
      intro hn
      rw [List.getElem?_eq_none (by omega)] at hx
      cases hx
    split at h
    · cases h
    split at h
    · cases h
    · have := fin_fit h
      omega
theorem hexS_err {n : Nat} {s : B} {e : Int} (h : hexS n s = .error e) : e = 1 := by
  unfold hexS at h
  split at h
  · cases h
  · cases h; rfl
theorem textS_err {d : Dir} {s : B} {e : Int} (h : textS d s = .error e) : e = 1 := by
  unfold textS at h
  split at h
  · exact hexS_err h
  split at h
  · cases h
  · cases h
theorem numS_err {d : Dir} {n : Int} {e : Int} (h : numS d n = .error e) : e = 5 := by
  unfold numS at h
  split at h
  · split at h
    · cases h; rfl
    · cases h
  split at h
  · split at h
    · cases h
    · cases h; rfl
  split at h
  · cases h
  · cases h; rfl
theorem fin_err {o l : B} {v : Nat} {e : Int} (h : (if o.length + l.length > 100000 then Except.error 5 else .ok (o ++ l, v) : Except Int (B × Nat)) = .error e) : e = 5 := by
  split at h
  · cases h; rfl
  · cases h
theorem oneS_err {d : Dir} {items : List Item} {out : B} {used : Nat} {e : Int} (h : oneS d items out used = .error e) : e ≠ 0 := by
  unfold oneS at h
  simp only at h
  split at h
  · rw [fin_err h]; decide
  split at h
  · rw [fin_err h]; decide
  split at h
  · cases h; decide
  · split at h
    · cases h; decide
    split at h
    · rename_i e' he
      cases h
      split at he
      · rw [textS_err he]; decide
      · rw [numS_err he]; decide
    · rw [fin_err h]; decide
theorem timesS_err {d : Dir} {items : List Item} {e : Int} : ∀ {k : Nat} {out : B} {used : Nat}, timesS d items k out used = .error e → e ≠ 0
  | 0, _, _, h => by cases h
  | k + 1, out, used, h => by
    unfold timesS at h
    cases h1 : oneS d items out used with
    | error e' => rw [h1] at h; cases h; exact oneS_err h1
    | ok x => rw [h1] at h; exact timesS_err h
theorem runS_err {items : List Item} {e : Int} : ∀ {l : List Dir} {out : B} {used : Nat}, runS items l out used = .error e → e ≠ 0
  | [], _, _, h => by cases h
  | d :: l, out, used, h => by
    unfold runS at h
    cases h1 : timesS d items (times d (items.length - used)) out used with
    | error e' => rw [h1] at h; cases h; exact timesS_err h1
    | ok x => rw [h1] at h; exact runS_err h
theorem packS_err {form : B} {items : List Item} {e : Int} (h : packS form items = .error e) : e ≠ 0 := by
  unfold packS at h
  split at h
  · cases h; decide
  · exact runS_err h
theorem sz_le8 (c : UInt8) : sz c ≤ 8 := by
  unfold sz
  split
  · decide
  split
  · decide
  split
  · decide
  split <;> decide
theorem hexP_half : ∀ {t b : B}, t.length % 2 = 0 → hexP t = some b → 2 * b.length = t.length
  | [], b, _, h => by cases h; rfl
  | [_], b, h2, _ => by cases h2
  | x :: y :: t, b, h2, h => by
    unfold hexP at h
    split at h
    · rename_i m _ _ hm
      cases h
      have := hexP_half (by simp only [List.length_cons] at h2; omega) hm
      simp only [List.length_cons]
      omega
    · cases h
theorem hexS_len {n : Nat} {s r : B} (h : hexS n s = .ok r) : r.length = (n + 1) / 2 := by
  unfold hexS at h
  split at h
  · rename_i l hl
    cases h
    have h2 : (hexT n s).length = n + n % 2 := by
      unfold hexT
      rw [List.length_append, List.length_take, List.length_replicate]
      omega
    have := hexP_half (by rw [h2]; omega) hl
    omega
  · cases h
theorem cntS_le {d : Dir} {n : Nat} (h : d.count ≤ 1000) : cntS d n ≤ max n 1000 := by
  unfold cntS
  split
  · omega
  split <;> omega
theorem textS_size {d : Dir} {s r : B} (hs : s.length ≤ 140737488351232) (hd : d.count ≤ 1000) (h : textS d s = .ok r) : r.length ≤ 140737488355328 := by
  unfold textS at h
  have h1 := cntS_le (n := s.length) hd
  have h2 := cntS_le (n := 0) hd
  split at h
  · have := hexS_len h
    omega
  split at h
  · cases h
    split <;> simp <;> omega
  · simp only at h
    cases h
    split <;> simp <;> omega
theorem sevR_size : ∀ (f n : Nat), (sevR f n).length ≤ f
  | 0, _ => Nat.le_refl _
  | f + 1, n => by
    unfold sevR
    split
    · exact Nat.zero_le _
    · have := sevR_size f (n / 128)
      simp
      omega
theorem numS_size {d : Dir} {n : Int} {r : B} (h : numS d n = .ok r) : r.length ≤ 1000000 := by
  unfold numS at h
  split at h
  · split at h
    · cases h
    · cases h
      unfold sevens
      have := sevR_size 10 (n.toNat / 128)
      simp
      omega
  split at h
  · split at h
    · cases h
      unfold utf
      split
      · simp
      split
      · simp
      split <;> simp
    · cases h
  split at h
  · have hz : sz d.letter ≤ 8 := by
      unfold sz
      split
      · decide
      split
      · decide
      split
      · decide
      split <;> decide
    cases h
    split <;> simp [le_len] <;> omega
  · cases h
end Go.Pack

/-
  Contract: one item, or a place, is written (program). (Begun: ends in sorry.)
-/
namespace Go.Proofs.YtjkchonpnocffaaDoor
open Go.AX Go.RowKit Go.Pack
set_option maxRecDepth 20000

/-- What one leaves: bytes, where they lie, the items used, the error. -/
structure OSt where
  l : List UInt8
  ob : Option Nat
  cap : Nat
  used : Nat
  e : Int
def OSt.ok (d : Dir) (items : List Pack.Item) (l : List UInt8) (used : Nat) (i : OSt) : Prop :=
  (i.ob = none → i.l = [] ∧ i.cap = 0) ∧ i.l.length ≤ i.cap ∧ (if i.e = 0 then oneS d items l used = .ok (i.l, i.used) else oneS d items l used = .error i.e)
def outE (l : List UInt8) (ob : Option Nat) (cap : Nat) : Ent := .app 5 1 (u8s l) (at0 ob) l.length cap
theorem one_c (pb : Nat) (d : Dir) (l : List UInt8) (ob : Option Nat) (cap : Nat) (ia : Option Addr) (items : List Pack.Item) (icap used : Nat) (hd : DirOk d) (hob : (ob = none → l = [] ∧ cap = 0) ∧ l.length ≤ cap) (hll : l.length ≤ 100000)
    (hia : items ≠ [] → ia.isSome = true) (hu : used ≤ items.length) (hl : items.length ≤ 100000) (hi : ∀ x ∈ items, x.text.length ≤ 140737488351232 ∧ -9223372036854775808 ≤ x.int ∧ x.int < 9223372036854775808) :
    SpecH Tryd.prog 65 [.c (.v (.pointer (some ⟨pb, 0, none⟩))), .c (.v (dirV d))] [.fact (ItemsF ia items), pkE pb ob l.length cap ia items.length icap used, outE l ob cap]
      (RetG (OSt.ok d items l used) (fun i => .int .i64 i.e) fun i => [.fact (ItemsF ia items), pkE pb i.ob i.l.length i.cap ia items.length icap i.used, outE i.l i.ob i.cap]) := by
  refine ownC hm Tryd.func65 (by kernel_rfl) rfl rfl (fun _ _ => okHB_eq rfl) (fun _ _ => Nat.le_refl _) ?_
  have h120 : ((d.letter.toNat : Int) == 120) = (d.letter == 120) := u8_eq (n := 120) (by decide)
  have h64 : ((d.letter.toNat : Int) == 64) = (d.letter == 64) := u8_eq (n := 64) (by decide)
  (first | refine wX ?_ | exact wZ)
  rw [h120]
  cases hx : d.letter == 120 with
  | true =>
    obtain ⟨m, hm⟩ : ∃ m : Nat, (max 1 d.count).toNat = m := ⟨_, rfl⟩
    have hmx : maxI 1 d.count = (m : Int) := by unfold maxI; split <;> omega
    have hm2 : m ≤ 1000 := by
      have := hd.2
      unfold CntOk at this
      omega
    (first | refine wX ?_ | exact wZ)
    rw [hmx]
    (first | refine wX ?_ | exact wZ)
    refine EffW.mkBytes (e := 5) m rfl (by kernel_rfl) (by kernel_rfl) rfl rfl (by omega) fun bb => ?_
    (first | refine wX ?_ | exact wZ)
    refine LdN.one (a := some ⟨pb, 0, none⟩) (q := 0) (.slice (at0 ob) l.length cap) rfl (fun w hw => hw.2.1) rfl ?_
    (first | refine wX ?_ | exact wZ)
    have hm1 : 1 ≤ m := by omega
    have hone : oneS d items l used = if l.length + m > 100000 then .error 5 else .ok (l ++ List.replicate m 0, used) := by
      unfold oneS
      simp only
      rw [if_pos hx, hm, List.length_replicate]
    refine brd_dec (fun h1 => ?_) (fun h1 => ?_)
    · obtain ⟨k, rfl⟩ : ∃ k, m = k + 1 := ⟨m - 1, by omega⟩
      (first | refine wX ?_ | exact wZ)
      refine LdN.one (a := some ⟨pb, 0, none⟩) (q := 0) (.slice (at0 ob) l.length cap) rfl (fun w hw => hw.2.1) rfl ?_
      (first | refine wX ?_ | exact wZ)
      refine Nd.mk rfl ?_
      (conv => whnf)
      refine ApN.intro (u8s (List.replicate (k + 1) 0)) (by show _ = (k + 1) * 1; simp [u8s]) (fun u hu => by simp [u8s] at hu; rw [hu]; rfl) (fun w hw j v hv => (hw.2.2.2.1).cell (by simpa [u8s] using hv)) ?_
      (conv => whnf)
      refine AppN.grow 2 (u8s l) (u8s (List.replicate (k + 1) 0)) rfl (plains_vs _) ⟨by omega, ⟨by show (l.length + (k + 1)) * 1 ≤ _; omega, by omega⟩, by show 1 ≠ 0; omega⟩ fun b' cap' h2 h3 => ?_
      (first | refine wX ?_ | exact wZ)
      refine EffW.appTo (i := 1) (q := 0) (ys := [_]) [.slice (some ⟨b', 0, none⟩) (l.length + (k + 1)) cap', .slice ia items.length icap, .int .i64 (used : Int)] 3 rfl rfl rfl rfl rfl rfl rfl (Nat.le_of_ble_eq_true rfl) rfl rfl ?_
      (first | refine wX ?_ | exact wZ)
      refine ⟨⟨l ++ List.replicate (k + 1) 0, some b', cap', used, 5⟩, ⟨fun h => (by cases h), by show (l ++ List.replicate (k + 1) 0).length ≤ cap'; simp; omega, by rw [if_neg (show ¬ (5 : Int) = 0 by decide), hone, if_pos (by rw [wrap_i64 (by omega)] at h1; omega)]⟩, rfl, wkE_refl _, ?_, .inl ⟨rfl, rfl, by simp [u8s], rfl, by simp, rfl⟩, wkH_nil _⟩
      show wkE (.app _ _ _ _ _ _) (pkE pb (some b') (l ++ List.replicate (k + 1) 0).length cap' ia items.length icap used)
      rw [List.length_append, List.length_replicate]
      exact wkE_refl _
    · obtain ⟨k, rfl⟩ : ∃ k, m = k + 1 := ⟨m - 1, by omega⟩
      (first | refine wX ?_ | exact wZ)
      refine LdN.one (a := some ⟨pb, 0, none⟩) (q := 0) (.slice (at0 ob) l.length cap) rfl (fun w hw => hw.2.1) rfl ?_
      (first | refine wX ?_ | exact wZ)
      refine Nd.mk rfl ?_
      (conv => whnf)
      refine ApN.intro (u8s (List.replicate (k + 1) 0)) (by show _ = (k + 1) * 1; simp [u8s]) (fun u hu => by simp [u8s] at hu; rw [hu]; rfl) (fun w hw j v hv => (hw.2.2.2.1).cell (by simpa [u8s] using hv)) ?_
      (conv => whnf)
      refine AppN.grow 2 (u8s l) (u8s (List.replicate (k + 1) 0)) rfl (plains_vs _) ⟨by omega, ⟨by show (l.length + (k + 1)) * 1 ≤ _; omega, by omega⟩, by show 1 ≠ 0; omega⟩ fun b' cap' h2 h3 => ?_
      (first | refine wX ?_ | exact wZ)
      refine EffW.appTo (i := 1) (q := 0) (ys := [_]) [.slice (some ⟨b', 0, none⟩) (l.length + (k + 1)) cap', .slice ia items.length icap, .int .i64 (used : Int)] 3 rfl rfl rfl rfl rfl rfl rfl (Nat.le_of_ble_eq_true rfl) rfl rfl ?_
      (first | refine wX ?_ | exact wZ)
      refine ⟨⟨l ++ List.replicate (k + 1) 0, some b', cap', used, 0⟩, ⟨fun h => (by cases h), by show (l ++ List.replicate (k + 1) 0).length ≤ cap'; simp; omega, by rw [if_pos rfl, hone, if_neg (by rw [wrap_i64 (by omega)] at h1; omega)]⟩, rfl, wkE_refl _, ?_, .inl ⟨rfl, rfl, by simp [u8s], rfl, by simp, rfl⟩, wkH_nil _⟩
      show wkE (.app _ _ _ _ _ _) (pkE pb (some b') (l ++ List.replicate (k + 1) 0).length cap' ia items.length icap used)
      rw [List.length_append, List.length_replicate]
      exact wkE_refl _
  | false =>
    (first | refine wX ?_ | exact wZ)
    rw [h64]
    cases h4 : d.letter == 64 with
    | true =>
      obtain ⟨m, hm⟩ : ∃ m : Nat, (max 0 d.count).toNat = m := ⟨_, rfl⟩
      have hmx : maxI 0 d.count = (m : Int) := by unfold maxI; split <;> omega
      have hm2 : m ≤ 1000 := by
        have := hd.2
        unfold CntOk at this
        omega
      have hone : oneS d items l used = if (l.take m).length + (m - (l.take m).length) > 100000 then .error 5 else .ok (l.take m ++ List.replicate (m - (l.take m).length) 0, used) := by
        unfold oneS
        simp only
        rw [if_neg (by rw [hx]; decide), if_pos h4, hm, List.length_replicate]
      by_cases hml : m ≤ l.length
      · have hz : m - (l.take m).length = 0 := by rw [List.length_take]; omega
        have hlt : (l.take m).length = m := by rw [List.length_take]; omega
        rw [hz, hlt, if_neg (by omega), List.replicate_zero, List.append_nil] at hone
        (first | refine wX ?_ | exact wZ)
        rw [hmx]
        (first | refine wX ?_ | exact wZ)
        refine DrawN.plan [0, 1, 5, 6] [(2, 1), (3, 1), (4, 1), (7, 1), (8, 1), (9, 1), (10, 1), (11, 1), (12, 1), (13, 1), (14, 1)] [(15, 0)] (by decide +kernel) ?_
        (first | refine wX ?_ | exact wZ)
        refine LdN.one (a := some ⟨pb, 0, none⟩) (q := 0) (.slice (at0 ob) l.length cap) rfl (fun w hw => hw.2.1) rfl ?_
        (first | refine wX ?_ | exact wZ)
        refine LdN.one (a := some ⟨pb, 0, none⟩) (q := 0) (.slice (at0 ob) l.length cap) rfl (fun w hw => hw.2.1) rfl ?_
        (first | refine wX ?_ | exact wZ)
        refine ReadW.slc_h (ob := ob) (j := (m : Int)) rfl (by kernel_rfl) rfl (av_int (by unfold minI; split <;> omega)) ⟨by omega, by omega⟩ ?_
        (first | refine wX ?_ | exact wZ)
        refine EffW.appTo (i := 1) (q := 0) (ys := [_]) [.slice (at0 ob) m cap, .slice ia items.length icap, .int .i64 (used : Int)] 3 rfl rfl rfl rfl rfl rfl rfl (Nat.le_of_ble_eq_true rfl) (by rw [Int.toNat_natCast]; rfl) rfl ?_
        (first | refine wX ?_ | exact wZ)
        refine LdN.one (a := some ⟨pb, 0, none⟩) (q := 0) (.slice (at0 ob) m cap) rfl (fun w hw => hw.2.1) rfl ?_
        (first | refine wX ?_ | exact wZ)
        refine EffW.mkBytes (e := 5) 0 rfl (by kernel_rfl) (by kernel_rfl) (av_int (by rw [wrap_i64 (by omega)]; omega)) (av_int (by rw [wrap_i64 (by omega)]; omega)) (by omega) fun bb => ?_
        (first | refine wX ?_ | exact wZ)
        refine LdN.one (a := some ⟨pb, 0, none⟩) (q := 0) (.slice (at0 ob) m cap) rfl (fun w hw => hw.2.1) rfl ?_
        (first | refine wX ?_ | exact wZ)
        refine brd_dec (fun h1 => absurd h1 (by rw [wrap_i64 (by show _ ≤ (m : Int) + ((0 : Nat) : Int) ∧ (m : Int) + ((0 : Nat) : Int) < _; omega)]; show ¬ (m : Int) + ((0 : Nat) : Int) > 100000; omega)) (fun h1 => ?_)
        (first | refine wX ?_ | exact wZ)
        refine LdN.one (a := some ⟨pb, 0, none⟩) (q := 0) (.slice (at0 ob) m cap) rfl (fun w hw => hw.2.1) rfl ?_
        (first | refine wX ?_ | exact wZ)
        refine EffW.appTo (i := 1) (q := 0) (ys := [_]) [.slice (at0 ob) m cap, .slice ia items.length icap, .int .i64 (used : Int)] 3 rfl rfl rfl rfl rfl rfl rfl (Nat.le_of_ble_eq_true rfl) rfl rfl ?_
        (first | refine wX ?_ | exact wZ)
        refine ⟨⟨l.take m, ob, cap, used, 0⟩, ⟨fun h => ⟨by show l.take m = []; rw [(hob.1 h).1]; exact List.take_nil, (hob.1 h).2⟩, by show (l.take m).length ≤ cap; rw [hlt]; omega, by rw [if_pos rfl, hone]⟩, rfl, wkE_refl _, ?_, .inr (.inr ⟨rfl, rfl, by rw [hlt, Nat.mul_one]; simp [u8s, List.map_take], rfl, by rw [hlt]; exact hml, rfl⟩), wkH_nil _⟩
        show wkE (.app _ _ _ _ _ _) (pkE pb ob (l.take m).length cap ia items.length icap used)
        rw [hlt]
        exact wkE_refl _
      · have hlt : l.take m = l := List.take_of_length_le (by omega)
        obtain ⟨k, hk⟩ : ∃ k, m - l.length = k + 1 := ⟨m - l.length - 1, by omega⟩
        rw [hlt, hk] at hone
        (first | refine wX ?_ | exact wZ)
        rw [hmx]
        (first | refine wX ?_ | exact wZ)
        refine DrawN.plan [0, 1, 5, 6] [(2, 1), (3, 1), (4, 1), (7, 1), (8, 1), (9, 1), (10, 1), (11, 1), (12, 1), (13, 1), (14, 1)] [(15, 0)] (by decide +kernel) ?_
        (first | refine wX ?_ | exact wZ)
        refine LdN.one (a := some ⟨pb, 0, none⟩) (q := 0) (.slice (at0 ob) l.length cap) rfl (fun w hw => hw.2.1) rfl ?_
        (first | refine wX ?_ | exact wZ)
        refine LdN.one (a := some ⟨pb, 0, none⟩) (q := 0) (.slice (at0 ob) l.length cap) rfl (fun w hw => hw.2.1) rfl ?_
        (first | refine wX ?_ | exact wZ)
        refine ReadW.slc_h (ob := ob) (j := (l.length : Int)) rfl (by kernel_rfl) rfl (av_int (by unfold minI; split <;> omega)) ⟨by omega, by omega⟩ ?_
        (first | refine wX ?_ | exact wZ)
        refine EffW.appTo (i := 1) (q := 0) (ys := [_]) [.slice (at0 ob) l.length cap, .slice ia items.length icap, .int .i64 (used : Int)] 3 rfl rfl rfl rfl rfl rfl rfl (Nat.le_of_ble_eq_true rfl) (by rw [Int.toNat_natCast]; rfl) rfl ?_
        (first | refine wX ?_ | exact wZ)
        refine LdN.one (a := some ⟨pb, 0, none⟩) (q := 0) (.slice (at0 ob) l.length cap) rfl (fun w hw => hw.2.1) rfl ?_
        (first | refine wX ?_ | exact wZ)
        refine EffW.mkBytes (e := 5) (k + 1) rfl (by kernel_rfl) (by kernel_rfl) (av_int (by rw [wrap_i64 (by omega)]; omega)) (av_int (by rw [wrap_i64 (by omega)]; omega)) (by omega) fun bb => ?_
        (first | refine wX ?_ | exact wZ)
        refine LdN.one (a := some ⟨pb, 0, none⟩) (q := 0) (.slice (at0 ob) l.length cap) rfl (fun w hw => hw.2.1) rfl ?_
        (first | refine wX ?_ | exact wZ)
        refine brd_dec (fun h1 => absurd h1 (by rw [wrap_i64 (by omega)]; omega)) (fun h1 => ?_)
        (first | refine wX ?_ | exact wZ)
        -- (List.replicate (k + 1) 0): the bytes, (fun w hw j v hv => (hw.2.2.2.1).cell (by simpa [u8s] using hv)): the fact of their cells, used: what is used, 0: the error, by rw [if_pos rfl, hone, if_neg (by omega)]: of the error, k + 1: how many (a k + 1)
        refine LdN.one (a := some ⟨pb, 0, none⟩) (q := 0) (.slice (at0 ob) l.length cap) rfl (fun w hw => hw.2.1) rfl ?_
        (first | refine wX ?_ | exact wZ)
        have hlen : ((List.replicate (k + 1) 0) : List UInt8).length = k + 1 := by simp
        refine Nd.mk rfl ?_
        (conv => whnf)
        refine ApN.intro (u8s ((List.replicate (k + 1) 0))) (by show _ = (k + 1) * 1; rw [u8s_len]; omega) (fun u hu => by obtain ⟨c, _, rfl⟩ := List.mem_map.1 hu; rfl) (fun w hw j v hv => (hw.2.2.2.1).cell (by simpa [u8s] using hv)) ?_
        (conv => whnf)
        refine AppN.big 2 (u8s l) (u8s ((List.replicate (k + 1) 0))) rfl (plains_vs _) ⟨by show 1 ≤ k + 1; omega, rfl, by show l.length + (k + 1) ≤ _; omega⟩ fun b' cap' h2 h3 => ?_
        (first | refine wX ?_ | exact wZ)
        refine EffW.appTo (i := 1) (q := 0) (ys := [_]) [.slice (some ⟨b', 0, none⟩) (l.length + (k + 1)) cap', .slice ia items.length icap, .int .i64 ((used : Nat) : Int)] 3 rfl rfl rfl rfl rfl rfl rfl (Nat.le_of_ble_eq_true rfl) rfl rfl ?_
        (first | refine wX ?_ | exact wZ)
        refine ⟨⟨l ++ (List.replicate (k + 1) 0), some b', cap', used, 0⟩, ⟨fun h => (by cases h), by show (l ++ (List.replicate (k + 1) 0)).length ≤ cap'; rw [List.length_append, hlen]; exact h2, by rw [if_pos rfl, hone, if_neg (by omega)]⟩, rfl, wkE_refl _, ?_, .inl ⟨rfl, rfl, by simp [u8s], rfl, by show _ = (l ++ (List.replicate (k + 1) 0)).length; rw [List.length_append, hlen], rfl⟩, wkH_nil _⟩
        show wkE (.app _ _ _ _ _ _) (pkE pb (some b') (l ++ (List.replicate (k + 1) 0)).length cap' ia items.length icap (used))
        rw [List.length_append, hlen]
        exact wkE_refl _
    | false =>
      (first | refine wX ?_ | exact wZ)
      refine call1 (isString_c d _) ?_
      (first | refine wX ?_ | exact wZ)
      have hone : oneS d items l used = match items[used]? with
          | none => .error 14
          | some x => if x.isText != isStr d.letter then .error 1
            else match if isStr d.letter then textS d x.text else numS d x.int with
              | .error e => .error e
              | .ok r => if l.length + r.length > 100000 then .error 5 else .ok (l ++ r, used + 1) := by
        unfold oneS
        simp only
        rw [if_neg (by rw [hx]; decide), if_neg (by rw [h4]; decide)]
        rfl
      refine callG (next_c pb ob l.length cap ia items icap used (isStr d.letter) hia hu hl) [0, 1] rfl ⟨rfl, rfl, trivial⟩ rfl fun _ _ => ?_
      cases hit : items[used]? with
      | none =>
        have hN : nextS items (isStr d.letter) used = (⟨false, 0, []⟩, 14, used) := by unfold nextS; rw [hit]
        rw [hit] at hone
        rw [hN]
        (first | refine wX ?_ | exact wZ)
        exact ⟨⟨l, ob, cap, used, 14⟩, ⟨hob.1, hob.2, by rw [if_neg (show ¬ (14 : Int) = 0 by decide), hone]⟩, rfl, wkE_refl _, wkE_refl _, wkE_refl _, wkH_nil _⟩
      | some x =>
        cases hk : x.isText != isStr d.letter with
        | true =>
          have hN : nextS items (isStr d.letter) used = (⟨false, 0, []⟩, 1, used + 1) := by unfold nextS; rw [hit]; simp only; rw [if_pos hk]
          rw [hit] at hone
          simp only at hone
          rw [if_pos hk] at hone
          rw [hN]
          (first | refine wX ?_ | exact wZ)
          exact ⟨⟨l, ob, cap, used + 1, 1⟩, ⟨hob.1, hob.2, by rw [if_neg (show ¬ (1 : Int) = 0 by decide), hone]⟩, rfl, wkE_refl _, wkE_refl _, wkE_refl _, wkH_nil _⟩
        | false =>
          have hN : nextS items (isStr d.letter) used = (x, 0, used + 1) := by unfold nextS; rw [hit]; simp only; rw [if_neg (by rw [hk]; decide)]
          rw [hit] at hone
          simp only at hone
          rw [if_neg (by rw [hk]; decide)] at hone
          have hcnt : d.count ≤ 1000 := by have := hd.2; unfold CntOk at this; omega
          have hxm := hi x (List.mem_of_getElem? hit)
          rw [hN]
          (first | refine wX ?_ | exact wZ)
          refine call1 (isString_c d _) ?_
          cases hstr : isStr d.letter with
          | true =>
            rw [hstr, if_pos rfl] at hone
            (first | refine wX ?_ | exact wZ)
            refine SpecF.call (text_c d x.text hxm.1 (by rcases hd.2 with h | h | h; exact .inr (.inl h.1); exact .inr (.inr h); exact .inl ⟨h.2.2 (by simpa using h4), h.2.1⟩)) (fun w _ => trivial) fun v G hR => ?_
            -- textS d x.text: what is written; 1: the error it may be; textS_err: that it is this one
            cases hw : textS d x.text with
            | error e =>
              obtain rfl := textS_err hw
              rw [hw] at hR hone
              obtain rfl := hR
              (first | refine wX ?_ | exact wZ)
              -- nothing is appended; used + 1: what is used, 1: the error, by rw [if_neg (show ¬ (1 : Int) = 0 by decide), hone]: of the error
              refine LdN.one (a := some ⟨pb, 0, none⟩) (q := 0) (.slice (at0 ob) l.length cap) rfl (fun w hw => hw.2.1) rfl ?_
              (first | refine wX ?_ | exact wZ)
              refine EffW.appTo (i := 1) (q := 0) (ys := [_]) [.slice (at0 ob) l.length cap, .slice ia items.length icap, .int .i64 ((used + 1 : Nat) : Int)] 3 rfl rfl rfl rfl rfl rfl rfl (Nat.le_of_ble_eq_true rfl) rfl rfl ?_
              (first | refine wX ?_ | exact wZ)
              exact ⟨⟨l, ob, cap, used + 1, 1⟩, ⟨hob.1, hob.2, by rw [if_neg (show ¬ (1 : Int) = 0 by decide), hone]⟩, rfl, wkE_refl _, wkE_refl _, wkE_refl _, wkH_nil _⟩
            | ok r =>
              rw [hw] at hR hone
              obtain ⟨y, rfl, rb, rc, rfl, hrb, hG⟩ := hR
              simp only at hone
              cases r with
              | nil =>
                rw [List.length_nil, if_neg (by omega), List.append_nil] at hone
                (first | refine wX ?_ | exact wZ)
                refine LdN.one (a := some ⟨pb, 0, none⟩) (q := 0) (.slice (at0 ob) l.length cap) rfl (fun w hw => hw.2.1) rfl ?_
                (first | refine wX ?_ | exact wZ)
                refine brd_dec (fun h1 => absurd h1 (by rw [wrap_i64 (by show _ ≤ (l.length : Int) + ((0 : Nat) : Int) ∧ (l.length : Int) + ((0 : Nat) : Int) < _; omega)]; show ¬ (l.length : Int) + ((0 : Nat) : Int) > 100000; omega)) (fun h1 => ?_)
                (first | refine wX ?_ | exact wZ)
                -- nothing is appended; used + 1: what is used, 0: the error, by rw [if_pos rfl, hone]: of the error
                refine LdN.one (a := some ⟨pb, 0, none⟩) (q := 0) (.slice (at0 ob) l.length cap) rfl (fun w hw => hw.2.1) rfl ?_
                (first | refine wX ?_ | exact wZ)
                refine EffW.appTo (i := 1) (q := 0) (ys := [_]) [.slice (at0 ob) l.length cap, .slice ia items.length icap, .int .i64 ((used + 1 : Nat) : Int)] 3 rfl rfl rfl rfl rfl rfl rfl (Nat.le_of_ble_eq_true rfl) rfl rfl ?_
                (first | refine wX ?_ | exact wZ)
                exact ⟨⟨l, ob, cap, used + 1, 0⟩, ⟨hob.1, hob.2, by rw [if_pos rfl, hone]⟩, rfl, wkE_refl _, wkE_refl _, wkE_refl _, wkH_nil _⟩
              | cons r0 r1 =>
                obtain ⟨rb, rfl⟩ : ∃ g, rb = some g := by
                  cases rb with
                  | none => exact absurd (hrb rfl) (by simp)
                  | some g => exact ⟨g, rfl⟩
                have hrl : (r0 :: r1).length ≤ 140737488355328 := Nat.le_trans (textS_size hxm.1 hcnt hw) (by decide)
                (first | refine wX ?_ | exact wZ)
                refine LdN.one (a := some ⟨pb, 0, none⟩) (q := 0) (.slice (at0 ob) l.length cap) rfl (fun w hw => hw.2.1) rfl ?_
                (first | refine wX ?_ | exact wZ)
                refine brd_dec (fun h1 => ?_) (fun h1 => ?_)
                · (first | refine wX ?_ | exact wZ)
                  -- (r0 :: r1): the bytes, (fun w hw j v hv => (hG w hw.2.2.2.1).cell hv): the fact of their cells, used + 1: what is used, 5: the error, by rw [if_neg (show ¬ (5 : Int) = 0 by decide), hone, if_pos (by have e : ((r0 :: r1).length : Int) = ((r1.length + 1 : Nat) : Int) := rfl; rw [wrap_i64 (by omega)] at h1; omega)]: of the error, r1.length + 1: how many (a k + 1)
                  refine LdN.one (a := some ⟨pb, 0, none⟩) (q := 0) (.slice (at0 ob) l.length cap) rfl (fun w hw => hw.2.1) rfl ?_
                  (first | refine wX ?_ | exact wZ)
                  have hlen : ((r0 :: r1) : List UInt8).length = r1.length + 1 := by simp
                  refine Nd.mk rfl ?_
                  (conv => whnf)
                  refine ApN.intro (u8s ((r0 :: r1))) (by show _ = (r1.length + 1) * 1; rw [u8s_len]; omega) (fun u hu => by obtain ⟨c, _, rfl⟩ := List.mem_map.1 hu; rfl) (fun w hw j v hv => (hG w hw.2.2.2.1).cell hv) ?_
                  (conv => whnf)
                  refine AppN.big 2 (u8s l) (u8s ((r0 :: r1))) rfl (plains_vs _) ⟨by show 1 ≤ r1.length + 1; omega, rfl, by show l.length + (r1.length + 1) ≤ _; omega⟩ fun b' cap' h2 h3 => ?_
                  (first | refine wX ?_ | exact wZ)
                  refine EffW.appTo (i := 1) (q := 0) (ys := [_]) [.slice (some ⟨b', 0, none⟩) (l.length + (r1.length + 1)) cap', .slice ia items.length icap, .int .i64 ((used + 1 : Nat) : Int)] 3 rfl rfl rfl rfl rfl rfl rfl (Nat.le_of_ble_eq_true rfl) rfl rfl ?_
                  (first | refine wX ?_ | exact wZ)
                  refine ⟨⟨l ++ (r0 :: r1), some b', cap', used + 1, 5⟩, ⟨fun h => (by cases h), by show (l ++ (r0 :: r1)).length ≤ cap'; rw [List.length_append, hlen]; exact h2, by rw [if_neg (show ¬ (5 : Int) = 0 by decide), hone, if_pos (by have e : ((r0 :: r1).length : Int) = ((r1.length + 1 : Nat) : Int) := rfl; rw [wrap_i64 (by omega)] at h1; omega)]⟩, rfl, wkE_refl _, ?_, .inl ⟨rfl, rfl, by simp [u8s], rfl, by show _ = (l ++ (r0 :: r1)).length; rw [List.length_append, hlen], rfl⟩, wkH_nil _⟩
                  show wkE (.app _ _ _ _ _ _) (pkE pb (some b') (l ++ (r0 :: r1)).length cap' ia items.length icap (used + 1))
                  rw [List.length_append, hlen]
                  exact wkE_refl _
                · (first | refine wX ?_ | exact wZ)
                  -- (r0 :: r1): the bytes, (fun w hw j v hv => (hG w hw.2.2.2.1).cell hv): the fact of their cells, used + 1: what is used, 0: the error, by rw [if_pos rfl, hone, if_neg (by rw [wrap_i64 (by omega)] at h1; omega)]: of the error, r1.length + 1: how many (a k + 1)
                  refine LdN.one (a := some ⟨pb, 0, none⟩) (q := 0) (.slice (at0 ob) l.length cap) rfl (fun w hw => hw.2.1) rfl ?_
                  (first | refine wX ?_ | exact wZ)
                  have hlen : ((r0 :: r1) : List UInt8).length = r1.length + 1 := by simp
                  refine Nd.mk rfl ?_
                  (conv => whnf)
                  refine ApN.intro (u8s ((r0 :: r1))) (by show _ = (r1.length + 1) * 1; rw [u8s_len]; omega) (fun u hu => by obtain ⟨c, _, rfl⟩ := List.mem_map.1 hu; rfl) (fun w hw j v hv => (hG w hw.2.2.2.1).cell hv) ?_
                  (conv => whnf)
                  refine AppN.big 2 (u8s l) (u8s ((r0 :: r1))) rfl (plains_vs _) ⟨by show 1 ≤ r1.length + 1; omega, rfl, by show l.length + (r1.length + 1) ≤ _; omega⟩ fun b' cap' h2 h3 => ?_
                  (first | refine wX ?_ | exact wZ)
                  refine EffW.appTo (i := 1) (q := 0) (ys := [_]) [.slice (some ⟨b', 0, none⟩) (l.length + (r1.length + 1)) cap', .slice ia items.length icap, .int .i64 ((used + 1 : Nat) : Int)] 3 rfl rfl rfl rfl rfl rfl rfl (Nat.le_of_ble_eq_true rfl) rfl rfl ?_
                  (first | refine wX ?_ | exact wZ)
                  refine ⟨⟨l ++ (r0 :: r1), some b', cap', used + 1, 0⟩, ⟨fun h => (by cases h), by show (l ++ (r0 :: r1)).length ≤ cap'; rw [List.length_append, hlen]; exact h2, by rw [if_pos rfl, hone, if_neg (by rw [wrap_i64 (by omega)] at h1; omega)]⟩, rfl, wkE_refl _, ?_, .inl ⟨rfl, rfl, by simp [u8s], rfl, by show _ = (l ++ (r0 :: r1)).length; rw [List.length_append, hlen], rfl⟩, wkH_nil _⟩
                  show wkE (.app _ _ _ _ _ _) (pkE pb (some b') (l ++ (r0 :: r1)).length cap' ia items.length icap (used + 1))
                  rw [List.length_append, hlen]
                  exact wkE_refl _
          | false =>
            rw [hstr, if_neg (by decide)] at hone
            (first | refine wX ?_ | exact wZ)
            refine SpecF.call (number_c d x.int hxm.2 hd.1 hstr (by unfold isPl; rw [hx, h4]; rfl)) (fun w _ => trivial) fun v G hR => ?_
            -- numS d x.int: what is written; 5: the error it may be; numS_err: that it is this one
            cases hw : numS d x.int with
            | error e =>
              obtain rfl := numS_err hw
              rw [hw] at hR hone
              obtain rfl := hR
              (first | refine wX ?_ | exact wZ)
              -- nothing is appended; used + 1: what is used, 5: the error, by rw [if_neg (show ¬ (5 : Int) = 0 by decide), hone]: of the error
              refine LdN.one (a := some ⟨pb, 0, none⟩) (q := 0) (.slice (at0 ob) l.length cap) rfl (fun w hw => hw.2.1) rfl ?_
              (first | refine wX ?_ | exact wZ)
              refine EffW.appTo (i := 1) (q := 0) (ys := [_]) [.slice (at0 ob) l.length cap, .slice ia items.length icap, .int .i64 ((used + 1 : Nat) : Int)] 3 rfl rfl rfl rfl rfl rfl rfl (Nat.le_of_ble_eq_true rfl) rfl rfl ?_
              (first | refine wX ?_ | exact wZ)
              exact ⟨⟨l, ob, cap, used + 1, 5⟩, ⟨hob.1, hob.2, by rw [if_neg (show ¬ (5 : Int) = 0 by decide), hone]⟩, rfl, wkE_refl _, wkE_refl _, wkE_refl _, wkH_nil _⟩
            | ok r =>
              rw [hw] at hR hone
              obtain ⟨y, rfl, rb, rc, rfl, hrb, hG⟩ := hR
              simp only at hone
              cases r with
              | nil =>
                rw [List.length_nil, if_neg (by omega), List.append_nil] at hone
                (first | refine wX ?_ | exact wZ)
                refine LdN.one (a := some ⟨pb, 0, none⟩) (q := 0) (.slice (at0 ob) l.length cap) rfl (fun w hw => hw.2.1) rfl ?_
                (first | refine wX ?_ | exact wZ)
                refine brd_dec (fun h1 => absurd h1 (by rw [wrap_i64 (by show _ ≤ (l.length : Int) + ((0 : Nat) : Int) ∧ (l.length : Int) + ((0 : Nat) : Int) < _; omega)]; show ¬ (l.length : Int) + ((0 : Nat) : Int) > 100000; omega)) (fun h1 => ?_)
                (first | refine wX ?_ | exact wZ)
                -- nothing is appended; used + 1: what is used, 0: the error, by rw [if_pos rfl, hone]: of the error
                refine LdN.one (a := some ⟨pb, 0, none⟩) (q := 0) (.slice (at0 ob) l.length cap) rfl (fun w hw => hw.2.1) rfl ?_
                (first | refine wX ?_ | exact wZ)
                refine EffW.appTo (i := 1) (q := 0) (ys := [_]) [.slice (at0 ob) l.length cap, .slice ia items.length icap, .int .i64 ((used + 1 : Nat) : Int)] 3 rfl rfl rfl rfl rfl rfl rfl (Nat.le_of_ble_eq_true rfl) rfl rfl ?_
                (first | refine wX ?_ | exact wZ)
                exact ⟨⟨l, ob, cap, used + 1, 0⟩, ⟨hob.1, hob.2, by rw [if_pos rfl, hone]⟩, rfl, wkE_refl _, wkE_refl _, wkE_refl _, wkH_nil _⟩
              | cons r0 r1 =>
                obtain ⟨rb, rfl⟩ : ∃ g, rb = some g := by
                  cases rb with
                  | none => exact absurd (hrb rfl) (by simp)
                  | some g => exact ⟨g, rfl⟩
                have hrl : (r0 :: r1).length ≤ 140737488355328 := Nat.le_trans (numS_size hw) (by decide)
                (first | refine wX ?_ | exact wZ)
                refine LdN.one (a := some ⟨pb, 0, none⟩) (q := 0) (.slice (at0 ob) l.length cap) rfl (fun w hw => hw.2.1) rfl ?_
                (first | refine wX ?_ | exact wZ)
                refine brd_dec (fun h1 => ?_) (fun h1 => ?_)
                · (first | refine wX ?_ | exact wZ)
                  -- (r0 :: r1): the bytes, (fun w hw j v hv => (hG w hw.2.2.2.1).cell hv): the fact of their cells, used + 1: what is used, 5: the error, by rw [if_neg (show ¬ (5 : Int) = 0 by decide), hone, if_pos (by have e : ((r0 :: r1).length : Int) = ((r1.length + 1 : Nat) : Int) := rfl; rw [wrap_i64 (by omega)] at h1; omega)]: of the error, r1.length + 1: how many (a k + 1)
                  refine LdN.one (a := some ⟨pb, 0, none⟩) (q := 0) (.slice (at0 ob) l.length cap) rfl (fun w hw => hw.2.1) rfl ?_
                  (first | refine wX ?_ | exact wZ)
                  have hlen : ((r0 :: r1) : List UInt8).length = r1.length + 1 := by simp
                  refine Nd.mk rfl ?_
                  (conv => whnf)
                  refine ApN.intro (u8s ((r0 :: r1))) (by show _ = (r1.length + 1) * 1; rw [u8s_len]; omega) (fun u hu => by obtain ⟨c, _, rfl⟩ := List.mem_map.1 hu; rfl) (fun w hw j v hv => (hG w hw.2.2.2.1).cell hv) ?_
                  (conv => whnf)
                  refine AppN.big 2 (u8s l) (u8s ((r0 :: r1))) rfl (plains_vs _) ⟨by show 1 ≤ r1.length + 1; omega, rfl, by show l.length + (r1.length + 1) ≤ _; omega⟩ fun b' cap' h2 h3 => ?_
                  (first | refine wX ?_ | exact wZ)
                  refine EffW.appTo (i := 1) (q := 0) (ys := [_]) [.slice (some ⟨b', 0, none⟩) (l.length + (r1.length + 1)) cap', .slice ia items.length icap, .int .i64 ((used + 1 : Nat) : Int)] 3 rfl rfl rfl rfl rfl rfl rfl (Nat.le_of_ble_eq_true rfl) rfl rfl ?_
                  (first | refine wX ?_ | exact wZ)
                  refine ⟨⟨l ++ (r0 :: r1), some b', cap', used + 1, 5⟩, ⟨fun h => (by cases h), by show (l ++ (r0 :: r1)).length ≤ cap'; rw [List.length_append, hlen]; exact h2, by rw [if_neg (show ¬ (5 : Int) = 0 by decide), hone, if_pos (by have e : ((r0 :: r1).length : Int) = ((r1.length + 1 : Nat) : Int) := rfl; rw [wrap_i64 (by omega)] at h1; omega)]⟩, rfl, wkE_refl _, ?_, .inl ⟨rfl, rfl, by simp [u8s], rfl, by show _ = (l ++ (r0 :: r1)).length; rw [List.length_append, hlen], rfl⟩, wkH_nil _⟩
                  show wkE (.app _ _ _ _ _ _) (pkE pb (some b') (l ++ (r0 :: r1)).length cap' ia items.length icap (used + 1))
                  rw [List.length_append, hlen]
                  exact wkE_refl _
                · (first | refine wX ?_ | exact wZ)
                  -- (r0 :: r1): the bytes, (fun w hw j v hv => (hG w hw.2.2.2.1).cell hv): the fact of their cells, used + 1: what is used, 0: the error, by rw [if_pos rfl, hone, if_neg (by rw [wrap_i64 (by omega)] at h1; omega)]: of the error, r1.length + 1: how many (a k + 1)
                  refine LdN.one (a := some ⟨pb, 0, none⟩) (q := 0) (.slice (at0 ob) l.length cap) rfl (fun w hw => hw.2.1) rfl ?_
                  (first | refine wX ?_ | exact wZ)
                  have hlen : ((r0 :: r1) : List UInt8).length = r1.length + 1 := by simp
                  refine Nd.mk rfl ?_
                  (conv => whnf)
                  refine ApN.intro (u8s ((r0 :: r1))) (by show _ = (r1.length + 1) * 1; rw [u8s_len]; omega) (fun u hu => by obtain ⟨c, _, rfl⟩ := List.mem_map.1 hu; rfl) (fun w hw j v hv => (hG w hw.2.2.2.1).cell hv) ?_
                  (conv => whnf)
                  refine AppN.big 2 (u8s l) (u8s ((r0 :: r1))) rfl (plains_vs _) ⟨by show 1 ≤ r1.length + 1; omega, rfl, by show l.length + (r1.length + 1) ≤ _; omega⟩ fun b' cap' h2 h3 => ?_
                  (first | refine wX ?_ | exact wZ)
                  refine EffW.appTo (i := 1) (q := 0) (ys := [_]) [.slice (some ⟨b', 0, none⟩) (l.length + (r1.length + 1)) cap', .slice ia items.length icap, .int .i64 ((used + 1 : Nat) : Int)] 3 rfl rfl rfl rfl rfl rfl rfl (Nat.le_of_ble_eq_true rfl) rfl rfl ?_
                  (first | refine wX ?_ | exact wZ)
                  refine ⟨⟨l ++ (r0 :: r1), some b', cap', used + 1, 0⟩, ⟨fun h => (by cases h), by show (l ++ (r0 :: r1)).length ≤ cap'; rw [List.length_append, hlen]; exact h2, by rw [if_pos rfl, hone, if_neg (by rw [wrap_i64 (by omega)] at h1; omega)]⟩, rfl, wkE_refl _, ?_, .inl ⟨rfl, rfl, by simp [u8s], rfl, by show _ = (l ++ (r0 :: r1)).length; rw [List.length_append, hlen], rfl⟩, wkH_nil _⟩
                  show wkE (.app _ _ _ _ _ _) (pkE pb (some b') (l ++ (r0 :: r1)).length cap' ia items.length icap (used + 1))
                  rw [List.length_append, hlen]
                  exact wkE_refl _
end Go.Proofs.YtjkchonpnocffaaDoor

/-
  Plain Lean: hex digits, one by one.
-/
namespace Go.Pack
theorem take_snoc {D : B} {i : Nat} {c : UInt8} (h : D[i]? = some c) : D.take (i + 1) = D.take i ++ [c] := by
  rw [List.take_add_one, h]
  rfl
end Go.Pack

/-
  Contract: all directives are written (program).
-/
namespace Go.Proofs.YtjkchonpnocffaaDoor
open Go.AX Go.RowKit Go.Pack
set_option maxRecDepth 20000

/-- What run gives: an error, or a packer in memory. -/
def RunR (ia : Option Addr) (items : List Pack.Item) (icap : Nat) (r : Except Int (List UInt8 × Nat)) (v : Value) (G : World → Prop) : Prop := match r with
  | .error e => v = .tuple #[.pointer none, .int .i64 e]
  | .ok (l, u) => ∃ pb ob cap, v = .tuple #[.pointer (some ⟨pb, 0, none⟩), .int .i64 0] ∧ (ob = none → l = []) ∧ l.length ≤ cap ∧
    ∀ w, G w → SlAt (some ⟨pb, 0, none⟩) 3 [.slice (at0 ob) l.length cap, .slice ia items.length icap, .int .i64 (u : Int)] w ∧ SlAt (at0 ob) l.length (u8s l) w
theorem timesS_succ {d : Dir} {items : List Pack.Item} (k : Nat) (l : List UInt8) (used : Nat) : timesS d items (k + 1) l used = match oneS d items l used with | .error e => .error e | .ok (o, u) => timesS d items k o u := rfl
theorem run_c (form : List UInt8) (ia : Option Addr) (items : List Pack.Item) (icap : Nat) (hs : form.length ≤ 100000)
    (hia : items ≠ [] → ia.isSome = true) (hl : items.length ≤ 100000) (hi : ∀ x ∈ items, x.text.length ≤ 140737488351232 ∧ -9223372036854775808 ≤ x.int ∧ x.int < 9223372036854775808) :
    SpecF Tryd.prog 37 [.string (bs form), .slice ia items.length icap] (ItemsF ia items) (RunR ia items icap (packS form items)) := by
  refine specF hm Tryd.func37 (by kernel_rfl) rfl rfl ?_
  (first | refine wX ?_ | exact wZ)
  refine SpecF.call (read_c form hs) (fun w _ => trivial) fun v G hR => ?_
  unfold packS
  cases hf : forms form with
  | none =>
    rw [hf] at hR
    obtain ⟨y, n, cap, rfl⟩ := hR
    (first | refine wX ?_ | exact wZ)
    exact fin_v rfl
  | some ds =>
    rw [hf] at hR
    obtain ⟨db, dcap, rfl, hdb, hG⟩ := hR
    obtain ⟨h50, hok⟩ := forms_ok hf
    ((conv => whnf); (repeat ((first | refine RwN.own ?_ | refine VrN.norm (wrap_i64 (by omega)) ?_ | refine VrN.keep ?_ | refine DrawN.calm (by decide +kernel) ?_ | refine Nd.mk (by decide +kernel) ?_ | refine Nd.mk (by omega) ?_ | (refine Nd.mk ?_ ?_; focus ((repeat' (first | exact trivial | exact wkE_refl _ | refine And.intro ?_ ?_)); done)) | refine RdN.intro _ rfl (by rfl) ?_); (conv => whnf))))
    refine BoxN.known [.slice none 0 0, .slice ia items.length icap, .int .i64 0] rfl fun pb => ?_
    (first | refine wX ?_ | exact wZ)
    refine LoopN.intro (Nat × List UInt8 × Option Nat × Nat × Nat) (fun ⟨i, l, ob, cap, used⟩ => i ≤ ds.length ∧ runS items (ds.drop i) l used = runS items ds [] 0 ∧ ((ob = none → l = [] ∧ cap = 0) ∧ l.length ≤ cap) ∧ l.length ≤ 100000 ∧ used ≤ items.length)
      (fun ⟨i, _, _, _, _⟩ => mkS Tryd.f37.ntmps 0 [(1, .c (.v (.slice ia items.length icap))), (8, .c (.v (.pointer (some ⟨pb, 0, none⟩)))), (23, .c (.v (.slice (at0 db) ds.length dcap))), (24, .c (.v (.int .i64 (ds.length : Int)))), (25, .c (.v (.int .i64 (i : Int))))])
      (fun ⟨_, l, ob, cap, used⟩ => [.fact (ItemsF ia items), .fact G, pkE pb ob l.length cap ia items.length icap used, outE l ob cap]) (fun ⟨i, _, _, _, _⟩ => ds.length - i) [.app 0 0 [] none 0 0] rfl
      (fun _ => rfl) (fun _ => rfl) (fun _ _ => okHB_eq rfl) ⟨(0, [], none, 0, 0), ⟨Nat.zero_le _, rfl, ⟨fun _ => ⟨rfl, rfl⟩, Nat.le_refl _⟩, Nat.zero_le _, Nat.zero_le _⟩, ?_, ?_⟩ ?_
    · (repeat' (first | exact trivial | refine And.intro (by with_reducible rfl) ?_ | (with_reducible exact wkC_refl _) | (with_reducible exact wkCs_refl _) | refine And.intro ?_ ?_))
      all_goals rfl
    · exact ⟨wkE_refl _, wkE_refl _, wkE_refl _, wkE_nil, wkH_nil _⟩
    rintro ⟨i, l, ob, cap, used⟩ ⟨hid, hrun, hob, hll, hu⟩
    (first | refine wX ?_ | exact wZ)
    refine brd_dec (fun h1 => ?_) (fun h1 => ?_)
    · obtain ⟨d, hd⟩ : ∃ d, ds[i]? = some d := ⟨_, List.getElem?_eq_getElem (by omega)⟩
      have hdok := hok d (List.mem_of_getElem? hd)
      obtain ⟨db, rfl⟩ : ∃ g, db = some g := by
        cases db with
        | none => rw [hdb rfl] at hd; cases hd
        | some g => exact ⟨g, rfl⟩
      have hdr : runS items (ds.drop i) l used = match timesS d items (times d (items.length - used)) l used with | .error e => .error e | .ok (o, u) => runS items (ds.drop (i + 1)) o u := by
        rw [List.drop_eq_getElem_cons (by omega), (List.getElem?_eq_some_iff.1 hd).2]
        rfl
      rw [hdr] at hrun
      (first | refine wX ?_ | exact wZ)
      refine Nd.mk ⟨rfl, by omega, by omega⟩ ?_
      (first | refine wX ?_ | exact wZ)
      refine LdN.agg (dirC d) rfl (fun w hw => hG w hw.2.1) rfl (fun j hj => by
        rw [Int.toNat_natCast]
        exact dirsC_get ds i j hj hd) ?_
      (first | refine wX ?_ | exact wZ)
      refine call1 (isString_c d _) ?_
      cases hstr : isStr d.letter with
      | true =>
        have hT : times d (items.length - used) = 1 := by unfold times; rw [hstr]; rfl
        -- 1: the times
        rw [hT] at hrun
        (first | refine wX ?_ | exact wZ)
        refine LoopN.intro (Nat × List UInt8 × Option Nat × Nat × Nat) (fun ⟨j, l', ob', cap', used'⟩ => j ≤ 1 ∧ timesS d items (1 - j) l' used' = timesS d items (1) l used ∧ ((ob' = none → l' = [] ∧ cap' = 0) ∧ l'.length ≤ cap') ∧ l'.length ≤ 100000 ∧ used' ≤ items.length)
          (fun ⟨j, _, _, _, _⟩ => mkS Tryd.f37.ntmps 0 [(1, .c (.v (.slice ia items.length icap))), (8, .c (.v (.pointer (some ⟨pb, 0, none⟩)))), (10, .c (.lp 4 0)), (23, .c (.v (.slice (some ⟨db, 0, none⟩) ds.length dcap))), (24, .c (.v (.int .i64 (ds.length : Int)))), (25, .c (.v (.int .i64 (i : Int)))), (52, .c (.v (.int .i64 ((1 : Nat) : Int)))), (53, .c (.v (.int .i64 (j : Int))))])
          (fun ⟨_, l', ob', cap', used'⟩ => [.fact (ItemsF ia items), .fact G, pkE pb ob' l'.length cap' ia items.length icap used', outE l' ob' cap', .blk 57 [.v (.int .u8 (d.letter.toNat : Int)), .v (.bool d.big), .v (.int .i64 d.count)]]) (fun ⟨j, _, _, _, _⟩ => 1 - j) [] rfl
          (fun _ => rfl) (fun _ => rfl) (fun _ _ => okHB_eq rfl) ⟨(0, l, ob, cap, used), ⟨Nat.zero_le _, rfl, hob, hll, hu⟩, ?_, ?_⟩ ?_
        · (repeat' (first | exact trivial | refine And.intro (by with_reducible rfl) ?_ | (with_reducible exact wkC_refl _) | (with_reducible exact wkCs_refl _) | refine And.intro ?_ ?_))
          all_goals first | rfl | exact av_int (by omega) | exact av_int (by rw [wrap_i64 (by omega)]; omega)
        · exact ⟨wkE_refl _, wkE_refl _, wkE_refl _, wkE_refl _, wkE_refl _, wkH_nil _⟩
        rintro ⟨j, l', ob', cap', used'⟩ ⟨hj, hts, hob', hll', hu'⟩
        (first | refine wX ?_ | exact wZ)
        refine brd_dec (fun h2 => ?_) (fun h2 => ?_)
        · have hstep := timesS_succ (d := d) (items := items) (1 - j - 1) l' used'
          rw [show 1 - j - 1 + 1 = 1 - j by omega, hts] at hstep
          rw [hstep] at hrun
          (first | refine wX ?_ | exact wZ)
          refine callG (one_c pb d l' ob' cap' ia items icap used' hdok hob' hll' hia hu' hl hi) [0, 2, 3] rfl ⟨rfl, rfl, rfl, trivial⟩ rfl ?_
          rintro ⟨l2, ob2, cap2, used2, e⟩ ⟨h3, h4, h5⟩
          by_cases he : e = 0
          · have he0 : e = 0 := he
            subst he0
            simp only [if_true] at h5
            have hfit := oneS_fit hu' h5
            rw [h5] at hstep hrun
            (first | refine wX ?_ | exact wZ)
            refine ⟨(j + 1, l2, ob2, cap2, used2), ⟨by omega, by rw [show 1 - (j + 1) = 1 - j - 1 by omega, hstep], ⟨h3, h4⟩, hfit.1, hfit.2⟩, by show 1 - (j + 1) < 1 - j; omega, ?_, ?_⟩
            · (repeat' (first | exact trivial | refine And.intro (by with_reducible rfl) ?_ | (with_reducible exact wkC_refl _) | (with_reducible exact wkCs_refl _) | refine And.intro ?_ ?_))
              all_goals first | rfl | exact av_int (by omega) | exact av_int (by rw [wrap_i64 (by omega)]; omega)
            · exact ⟨wkE_refl _, wkE_refl _, wkE_refl _, wkE_refl _, wkE_refl _, wkH_nil _⟩
          · have he0 : ¬ e = 0 := he
            simp only [if_neg he0] at h5
            rw [h5] at hrun
            (first | refine wX ?_ | exact wZ)
            refine brd_ne (fun _ => ?_) (fun h6 => absurd h6 he0)
            (first | refine wX ?_ | exact wZ)
            refine fin_v ?_
            show RunR ia items icap (runS items ds [] 0) _ _
            rw [← hrun]
            rfl
        · have hj2 : j = 1 := by omega
          have hts2 : timesS d items (1) l used = .ok (l', used') := by
            rw [← hts, hj2, Nat.sub_self]
            rfl
          rw [hts2] at hrun
          (first | refine wX ?_ | exact wZ)
          refine ⟨(i + 1, l', ob', cap', used'), ⟨by omega, hrun, hob', hll', hu'⟩, by show ds.length - (i + 1) < ds.length - i; omega, ?_, ?_⟩
          · (repeat' (first | exact trivial | refine And.intro (by with_reducible rfl) ?_ | (with_reducible exact wkC_refl _) | (with_reducible exact wkCs_refl _) | refine And.intro ?_ ?_))
            all_goals first | rfl | exact av_int (by omega) | exact av_int (by rw [wrap_i64 (by omega)]; omega)
          · exact ⟨wkE_refl _, wkE_refl _, wkE_refl _, wkE_refl _, wkH_nil _⟩
      | false =>
        (first | refine wX ?_ | exact wZ)
        refine call1 (isPlace_c d _) ?_
        cases hpl : isPl d.letter with
        | true =>
          have hT : times d (items.length - used) = 1 := by unfold times; rw [hstr, hpl]; rfl
          -- 1: the times
          rw [hT] at hrun
          (first | refine wX ?_ | exact wZ)
          refine LoopN.intro (Nat × List UInt8 × Option Nat × Nat × Nat) (fun ⟨j, l', ob', cap', used'⟩ => j ≤ 1 ∧ timesS d items (1 - j) l' used' = timesS d items (1) l used ∧ ((ob' = none → l' = [] ∧ cap' = 0) ∧ l'.length ≤ cap') ∧ l'.length ≤ 100000 ∧ used' ≤ items.length)
            (fun ⟨j, _, _, _, _⟩ => mkS Tryd.f37.ntmps 0 [(1, .c (.v (.slice ia items.length icap))), (8, .c (.v (.pointer (some ⟨pb, 0, none⟩)))), (10, .c (.lp 4 0)), (23, .c (.v (.slice (some ⟨db, 0, none⟩) ds.length dcap))), (24, .c (.v (.int .i64 (ds.length : Int)))), (25, .c (.v (.int .i64 (i : Int)))), (52, .c (.v (.int .i64 ((1 : Nat) : Int)))), (53, .c (.v (.int .i64 (j : Int))))])
            (fun ⟨_, l', ob', cap', used'⟩ => [.fact (ItemsF ia items), .fact G, pkE pb ob' l'.length cap' ia items.length icap used', outE l' ob' cap', .blk 57 [.v (.int .u8 (d.letter.toNat : Int)), .v (.bool d.big), .v (.int .i64 d.count)]]) (fun ⟨j, _, _, _, _⟩ => 1 - j) [] rfl
            (fun _ => rfl) (fun _ => rfl) (fun _ _ => okHB_eq rfl) ⟨(0, l, ob, cap, used), ⟨Nat.zero_le _, rfl, hob, hll, hu⟩, ?_, ?_⟩ ?_
          · (repeat' (first | exact trivial | refine And.intro (by with_reducible rfl) ?_ | (with_reducible exact wkC_refl _) | (with_reducible exact wkCs_refl _) | refine And.intro ?_ ?_))
            all_goals first | rfl | exact av_int (by omega) | exact av_int (by rw [wrap_i64 (by omega)]; omega)
          · exact ⟨wkE_refl _, wkE_refl _, wkE_refl _, wkE_refl _, wkE_refl _, wkH_nil _⟩
          rintro ⟨j, l', ob', cap', used'⟩ ⟨hj, hts, hob', hll', hu'⟩
          (first | refine wX ?_ | exact wZ)
          refine brd_dec (fun h2 => ?_) (fun h2 => ?_)
          · have hstep := timesS_succ (d := d) (items := items) (1 - j - 1) l' used'
            rw [show 1 - j - 1 + 1 = 1 - j by omega, hts] at hstep
            rw [hstep] at hrun
            (first | refine wX ?_ | exact wZ)
            refine callG (one_c pb d l' ob' cap' ia items icap used' hdok hob' hll' hia hu' hl hi) [0, 2, 3] rfl ⟨rfl, rfl, rfl, trivial⟩ rfl ?_
            rintro ⟨l2, ob2, cap2, used2, e⟩ ⟨h3, h4, h5⟩
            by_cases he : e = 0
            · have he0 : e = 0 := he
              subst he0
              simp only [if_true] at h5
              have hfit := oneS_fit hu' h5
              rw [h5] at hstep hrun
              (first | refine wX ?_ | exact wZ)
              refine ⟨(j + 1, l2, ob2, cap2, used2), ⟨by omega, by rw [show 1 - (j + 1) = 1 - j - 1 by omega, hstep], ⟨h3, h4⟩, hfit.1, hfit.2⟩, by show 1 - (j + 1) < 1 - j; omega, ?_, ?_⟩
              · (repeat' (first | exact trivial | refine And.intro (by with_reducible rfl) ?_ | (with_reducible exact wkC_refl _) | (with_reducible exact wkCs_refl _) | refine And.intro ?_ ?_))
                all_goals first | rfl | exact av_int (by omega) | exact av_int (by rw [wrap_i64 (by omega)]; omega)
              · exact ⟨wkE_refl _, wkE_refl _, wkE_refl _, wkE_refl _, wkE_refl _, wkH_nil _⟩
            · have he0 : ¬ e = 0 := he
              simp only [if_neg he0] at h5
              rw [h5] at hrun
              (first | refine wX ?_ | exact wZ)
              refine brd_ne (fun _ => ?_) (fun h6 => absurd h6 he0)
              (first | refine wX ?_ | exact wZ)
              refine fin_v ?_
              show RunR ia items icap (runS items ds [] 0) _ _
              rw [← hrun]
              rfl
          · have hj2 : j = 1 := by omega
            have hts2 : timesS d items (1) l used = .ok (l', used') := by
              rw [← hts, hj2, Nat.sub_self]
              rfl
            rw [hts2] at hrun
            (first | refine wX ?_ | exact wZ)
            refine ⟨(i + 1, l', ob', cap', used'), ⟨by omega, hrun, hob', hll', hu'⟩, by show ds.length - (i + 1) < ds.length - i; omega, ?_, ?_⟩
            · (repeat' (first | exact trivial | refine And.intro (by with_reducible rfl) ?_ | (with_reducible exact wkC_refl _) | (with_reducible exact wkCs_refl _) | refine And.intro ?_ ?_))
              all_goals first | rfl | exact av_int (by omega) | exact av_int (by rw [wrap_i64 (by omega)]; omega)
            · exact ⟨wkE_refl _, wkE_refl _, wkE_refl _, wkE_refl _, wkH_nil _⟩
        | false =>
          have hT0 : times d (items.length - used) = cntS d (items.length - used) := by unfold times; rw [hstr, hpl]; rfl
          (first | refine wX ?_ | exact wZ)
          refine brd_eq (fun h2 => ?_) (fun h2 => ?_)
          · have hT : times d (items.length - used) = 1 := by rw [hT0]; unfold cntS; rw [if_pos (by simpa using h2)]
            -- 1: the times
            rw [hT] at hrun
            (first | refine wX ?_ | exact wZ)
            refine LoopN.intro (Nat × List UInt8 × Option Nat × Nat × Nat) (fun ⟨j, l', ob', cap', used'⟩ => j ≤ 1 ∧ timesS d items (1 - j) l' used' = timesS d items (1) l used ∧ ((ob' = none → l' = [] ∧ cap' = 0) ∧ l'.length ≤ cap') ∧ l'.length ≤ 100000 ∧ used' ≤ items.length)
              (fun ⟨j, _, _, _, _⟩ => mkS Tryd.f37.ntmps 0 [(1, .c (.v (.slice ia items.length icap))), (8, .c (.v (.pointer (some ⟨pb, 0, none⟩)))), (10, .c (.lp 4 0)), (23, .c (.v (.slice (some ⟨db, 0, none⟩) ds.length dcap))), (24, .c (.v (.int .i64 (ds.length : Int)))), (25, .c (.v (.int .i64 (i : Int)))), (52, .c (.v (.int .i64 ((1 : Nat) : Int)))), (53, .c (.v (.int .i64 (j : Int))))])
              (fun ⟨_, l', ob', cap', used'⟩ => [.fact (ItemsF ia items), .fact G, pkE pb ob' l'.length cap' ia items.length icap used', outE l' ob' cap', .blk 57 [.v (.int .u8 (d.letter.toNat : Int)), .v (.bool d.big), .v (.int .i64 d.count)]]) (fun ⟨j, _, _, _, _⟩ => 1 - j) [] rfl
              (fun _ => rfl) (fun _ => rfl) (fun _ _ => okHB_eq rfl) ⟨(0, l, ob, cap, used), ⟨Nat.zero_le _, rfl, hob, hll, hu⟩, ?_, ?_⟩ ?_
            · (repeat' (first | exact trivial | refine And.intro (by with_reducible rfl) ?_ | (with_reducible exact wkC_refl _) | (with_reducible exact wkCs_refl _) | refine And.intro ?_ ?_))
              all_goals first | rfl | exact av_int (by omega) | exact av_int (by rw [wrap_i64 (by omega)]; omega)
            · exact ⟨wkE_refl _, wkE_refl _, wkE_refl _, wkE_refl _, wkE_refl _, wkH_nil _⟩
            rintro ⟨j, l', ob', cap', used'⟩ ⟨hj, hts, hob', hll', hu'⟩
            (first | refine wX ?_ | exact wZ)
            refine brd_dec (fun h2 => ?_) (fun h2 => ?_)
            · have hstep := timesS_succ (d := d) (items := items) (1 - j - 1) l' used'
              rw [show 1 - j - 1 + 1 = 1 - j by omega, hts] at hstep
              rw [hstep] at hrun
              (first | refine wX ?_ | exact wZ)
              refine callG (one_c pb d l' ob' cap' ia items icap used' hdok hob' hll' hia hu' hl hi) [0, 2, 3] rfl ⟨rfl, rfl, rfl, trivial⟩ rfl ?_
              rintro ⟨l2, ob2, cap2, used2, e⟩ ⟨h3, h4, h5⟩
              by_cases he : e = 0
              · have he0 : e = 0 := he
                subst he0
                simp only [if_true] at h5
                have hfit := oneS_fit hu' h5
                rw [h5] at hstep hrun
                (first | refine wX ?_ | exact wZ)
                refine ⟨(j + 1, l2, ob2, cap2, used2), ⟨by omega, by rw [show 1 - (j + 1) = 1 - j - 1 by omega, hstep], ⟨h3, h4⟩, hfit.1, hfit.2⟩, by show 1 - (j + 1) < 1 - j; omega, ?_, ?_⟩
                · (repeat' (first | exact trivial | refine And.intro (by with_reducible rfl) ?_ | (with_reducible exact wkC_refl _) | (with_reducible exact wkCs_refl _) | refine And.intro ?_ ?_))
                  all_goals first | rfl | exact av_int (by omega) | exact av_int (by rw [wrap_i64 (by omega)]; omega)
                · exact ⟨wkE_refl _, wkE_refl _, wkE_refl _, wkE_refl _, wkE_refl _, wkH_nil _⟩
              · have he0 : ¬ e = 0 := he
                simp only [if_neg he0] at h5
                rw [h5] at hrun
                (first | refine wX ?_ | exact wZ)
                refine brd_ne (fun _ => ?_) (fun h6 => absurd h6 he0)
                (first | refine wX ?_ | exact wZ)
                refine fin_v ?_
                show RunR ia items icap (runS items ds [] 0) _ _
                rw [← hrun]
                rfl
            · have hj2 : j = 1 := by omega
              have hts2 : timesS d items (1) l used = .ok (l', used') := by
                rw [← hts, hj2, Nat.sub_self]
                rfl
              rw [hts2] at hrun
              (first | refine wX ?_ | exact wZ)
              refine ⟨(i + 1, l', ob', cap', used'), ⟨by omega, hrun, hob', hll', hu'⟩, by show ds.length - (i + 1) < ds.length - i; omega, ?_, ?_⟩
              · (repeat' (first | exact trivial | refine And.intro (by with_reducible rfl) ?_ | (with_reducible exact wkC_refl _) | (with_reducible exact wkCs_refl _) | refine And.intro ?_ ?_))
                all_goals first | rfl | exact av_int (by omega) | exact av_int (by rw [wrap_i64 (by omega)]; omega)
              · exact ⟨wkE_refl _, wkE_refl _, wkE_refl _, wkE_refl _, wkH_nil _⟩
          · (first | refine wX ?_ | exact wZ)
            refine brd_eq (fun h3 => ?_) (fun h3 => ?_)
            · have hT : times d (items.length - used) = items.length - used := by rw [hT0]; unfold cntS; rw [if_neg (by simpa using h2), if_pos (by simpa using h3)]
              (first | refine wX ?_ | exact wZ)
              refine LdN.one (a := some ⟨pb, 0, none⟩) (q := 2) (.int .i64 (used : Int)) rfl (fun w hw => hw.2.2.1) rfl ?_
              -- (items.length - used): the times
              rw [hT] at hrun
              (first | refine wX ?_ | exact wZ)
              refine LoopN.intro (Nat × List UInt8 × Option Nat × Nat × Nat) (fun ⟨j, l', ob', cap', used'⟩ => j ≤ (items.length - used) ∧ timesS d items ((items.length - used) - j) l' used' = timesS d items ((items.length - used)) l used ∧ ((ob' = none → l' = [] ∧ cap' = 0) ∧ l'.length ≤ cap') ∧ l'.length ≤ 100000 ∧ used' ≤ items.length)
                (fun ⟨j, _, _, _, _⟩ => mkS Tryd.f37.ntmps 0 [(1, .c (.v (.slice ia items.length icap))), (8, .c (.v (.pointer (some ⟨pb, 0, none⟩)))), (10, .c (.lp 4 0)), (23, .c (.v (.slice (some ⟨db, 0, none⟩) ds.length dcap))), (24, .c (.v (.int .i64 (ds.length : Int)))), (25, .c (.v (.int .i64 (i : Int)))), (52, .c (.v (.int .i64 (((items.length - used) : Nat) : Int)))), (53, .c (.v (.int .i64 (j : Int))))])
                (fun ⟨_, l', ob', cap', used'⟩ => [.fact (ItemsF ia items), .fact G, pkE pb ob' l'.length cap' ia items.length icap used', outE l' ob' cap', .blk 57 [.v (.int .u8 (d.letter.toNat : Int)), .v (.bool d.big), .v (.int .i64 d.count)]]) (fun ⟨j, _, _, _, _⟩ => (items.length - used) - j) [] rfl
                (fun _ => rfl) (fun _ => rfl) (fun _ _ => okHB_eq rfl) ⟨(0, l, ob, cap, used), ⟨Nat.zero_le _, rfl, hob, hll, hu⟩, ?_, ?_⟩ ?_
              · (repeat' (first | exact trivial | refine And.intro (by with_reducible rfl) ?_ | (with_reducible exact wkC_refl _) | (with_reducible exact wkCs_refl _) | refine And.intro ?_ ?_))
                all_goals first | rfl | exact av_int (by omega) | exact av_int (by rw [wrap_i64 (by omega)]; omega)
              · exact ⟨wkE_refl _, wkE_refl _, wkE_refl _, wkE_refl _, wkE_refl _, wkH_nil _⟩
              rintro ⟨j, l', ob', cap', used'⟩ ⟨hj, hts, hob', hll', hu'⟩
              (first | refine wX ?_ | exact wZ)
              refine brd_dec (fun h2 => ?_) (fun h2 => ?_)
              · have hstep := timesS_succ (d := d) (items := items) ((items.length - used) - j - 1) l' used'
                rw [show (items.length - used) - j - 1 + 1 = (items.length - used) - j by omega, hts] at hstep
                rw [hstep] at hrun
                (first | refine wX ?_ | exact wZ)
                refine callG (one_c pb d l' ob' cap' ia items icap used' hdok hob' hll' hia hu' hl hi) [0, 2, 3] rfl ⟨rfl, rfl, rfl, trivial⟩ rfl ?_
                rintro ⟨l2, ob2, cap2, used2, e⟩ ⟨h3, h4, h5⟩
                by_cases he : e = 0
                · have he0 : e = 0 := he
                  subst he0
                  simp only [if_true] at h5
                  have hfit := oneS_fit hu' h5
                  rw [h5] at hstep hrun
                  (first | refine wX ?_ | exact wZ)
                  refine ⟨(j + 1, l2, ob2, cap2, used2), ⟨by omega, by rw [show (items.length - used) - (j + 1) = (items.length - used) - j - 1 by omega, hstep], ⟨h3, h4⟩, hfit.1, hfit.2⟩, by show (items.length - used) - (j + 1) < (items.length - used) - j; omega, ?_, ?_⟩
                  · (repeat' (first | exact trivial | refine And.intro (by with_reducible rfl) ?_ | (with_reducible exact wkC_refl _) | (with_reducible exact wkCs_refl _) | refine And.intro ?_ ?_))
                    all_goals first | rfl | exact av_int (by omega) | exact av_int (by rw [wrap_i64 (by omega)]; omega)
                  · exact ⟨wkE_refl _, wkE_refl _, wkE_refl _, wkE_refl _, wkE_refl _, wkH_nil _⟩
                · have he0 : ¬ e = 0 := he
                  simp only [if_neg he0] at h5
                  rw [h5] at hrun
                  (first | refine wX ?_ | exact wZ)
                  refine brd_ne (fun _ => ?_) (fun h6 => absurd h6 he0)
                  (first | refine wX ?_ | exact wZ)
                  refine fin_v ?_
                  show RunR ia items icap (runS items ds [] 0) _ _
                  rw [← hrun]
                  rfl
              · have hj2 : j = (items.length - used) := by omega
                have hts2 : timesS d items ((items.length - used)) l used = .ok (l', used') := by
                  rw [← hts, hj2, Nat.sub_self]
                  rfl
                rw [hts2] at hrun
                (first | refine wX ?_ | exact wZ)
                refine ⟨(i + 1, l', ob', cap', used'), ⟨by omega, hrun, hob', hll', hu'⟩, by show ds.length - (i + 1) < ds.length - i; omega, ?_, ?_⟩
                · (repeat' (first | exact trivial | refine And.intro (by with_reducible rfl) ?_ | (with_reducible exact wkC_refl _) | (with_reducible exact wkCs_refl _) | refine And.intro ?_ ?_))
                  all_goals first | rfl | exact av_int (by omega) | exact av_int (by rw [wrap_i64 (by omega)]; omega)
                · exact ⟨wkE_refl _, wkE_refl _, wkE_refl _, wkE_refl _, wkH_nil _⟩
            · have hc : 0 ≤ d.count ∧ d.count ≤ 1000 := by
                have := hdok.2
                unfold CntOk at this
                omega
              obtain ⟨T, hTe⟩ : ∃ T : Nat, d.count.toNat = T := ⟨_, rfl⟩
              have hT : times d (items.length - used) = T := by rw [hT0]; unfold cntS; rw [if_neg (by simpa using h2), if_neg (by simpa using h3)]; exact hTe
              -- T: the times
              rw [hT] at hrun
              (first | refine wX ?_ | exact wZ)
              refine LoopN.intro (Nat × List UInt8 × Option Nat × Nat × Nat) (fun ⟨j, l', ob', cap', used'⟩ => j ≤ T ∧ timesS d items (T - j) l' used' = timesS d items (T) l used ∧ ((ob' = none → l' = [] ∧ cap' = 0) ∧ l'.length ≤ cap') ∧ l'.length ≤ 100000 ∧ used' ≤ items.length)
                (fun ⟨j, _, _, _, _⟩ => mkS Tryd.f37.ntmps 0 [(1, .c (.v (.slice ia items.length icap))), (8, .c (.v (.pointer (some ⟨pb, 0, none⟩)))), (10, .c (.lp 4 0)), (23, .c (.v (.slice (some ⟨db, 0, none⟩) ds.length dcap))), (24, .c (.v (.int .i64 (ds.length : Int)))), (25, .c (.v (.int .i64 (i : Int)))), (52, .c (.v (.int .i64 ((T : Nat) : Int)))), (53, .c (.v (.int .i64 (j : Int))))])
                (fun ⟨_, l', ob', cap', used'⟩ => [.fact (ItemsF ia items), .fact G, pkE pb ob' l'.length cap' ia items.length icap used', outE l' ob' cap', .blk 57 [.v (.int .u8 (d.letter.toNat : Int)), .v (.bool d.big), .v (.int .i64 d.count)]]) (fun ⟨j, _, _, _, _⟩ => T - j) [] rfl
                (fun _ => rfl) (fun _ => rfl) (fun _ _ => okHB_eq rfl) ⟨(0, l, ob, cap, used), ⟨Nat.zero_le _, rfl, hob, hll, hu⟩, ?_, ?_⟩ ?_
              · (repeat' (first | exact trivial | refine And.intro (by with_reducible rfl) ?_ | (with_reducible exact wkC_refl _) | (with_reducible exact wkCs_refl _) | refine And.intro ?_ ?_))
                all_goals first | rfl | exact av_int (by omega) | exact av_int (by rw [wrap_i64 (by omega)]; omega)
              · exact ⟨wkE_refl _, wkE_refl _, wkE_refl _, wkE_refl _, wkE_refl _, wkH_nil _⟩
              rintro ⟨j, l', ob', cap', used'⟩ ⟨hj, hts, hob', hll', hu'⟩
              (first | refine wX ?_ | exact wZ)
              refine brd_dec (fun h2 => ?_) (fun h2 => ?_)
              · have hstep := timesS_succ (d := d) (items := items) (T - j - 1) l' used'
                rw [show T - j - 1 + 1 = T - j by omega, hts] at hstep
                rw [hstep] at hrun
                (first | refine wX ?_ | exact wZ)
                refine callG (one_c pb d l' ob' cap' ia items icap used' hdok hob' hll' hia hu' hl hi) [0, 2, 3] rfl ⟨rfl, rfl, rfl, trivial⟩ rfl ?_
                rintro ⟨l2, ob2, cap2, used2, e⟩ ⟨h3, h4, h5⟩
                by_cases he : e = 0
                · have he0 : e = 0 := he
                  subst he0
                  simp only [if_true] at h5
                  have hfit := oneS_fit hu' h5
                  rw [h5] at hstep hrun
                  (first | refine wX ?_ | exact wZ)
                  refine ⟨(j + 1, l2, ob2, cap2, used2), ⟨by omega, by rw [show T - (j + 1) = T - j - 1 by omega, hstep], ⟨h3, h4⟩, hfit.1, hfit.2⟩, by show T - (j + 1) < T - j; omega, ?_, ?_⟩
                  · (repeat' (first | exact trivial | refine And.intro (by with_reducible rfl) ?_ | (with_reducible exact wkC_refl _) | (with_reducible exact wkCs_refl _) | refine And.intro ?_ ?_))
                    all_goals first | rfl | exact av_int (by omega) | exact av_int (by rw [wrap_i64 (by omega)]; omega)
                  · exact ⟨wkE_refl _, wkE_refl _, wkE_refl _, wkE_refl _, wkE_refl _, wkH_nil _⟩
                · have he0 : ¬ e = 0 := he
                  simp only [if_neg he0] at h5
                  rw [h5] at hrun
                  (first | refine wX ?_ | exact wZ)
                  refine brd_ne (fun _ => ?_) (fun h6 => absurd h6 he0)
                  (first | refine wX ?_ | exact wZ)
                  refine fin_v ?_
                  show RunR ia items icap (runS items ds [] 0) _ _
                  rw [← hrun]
                  rfl
              · have hj2 : j = T := by omega
                have hts2 : timesS d items (T) l used = .ok (l', used') := by
                  rw [← hts, hj2, Nat.sub_self]
                  rfl
                rw [hts2] at hrun
                (first | refine wX ?_ | exact wZ)
                refine ⟨(i + 1, l', ob', cap', used'), ⟨by omega, hrun, hob', hll', hu'⟩, by show ds.length - (i + 1) < ds.length - i; omega, ?_, ?_⟩
                · (repeat' (first | exact trivial | refine And.intro (by with_reducible rfl) ?_ | (with_reducible exact wkC_refl _) | (with_reducible exact wkCs_refl _) | refine And.intro ?_ ?_))
                  all_goals first | rfl | exact av_int (by omega) | exact av_int (by rw [wrap_i64 (by omega)]; omega)
                · exact ⟨wkE_refl _, wkE_refl _, wkE_refl _, wkE_refl _, wkH_nil _⟩
    · have hi : i = ds.length := by omega
      subst hi
      rw [List.drop_length] at hrun
      (first | refine wX ?_ | exact wZ)
      refine fin_p (fun w => SlAt (some ⟨pb, 0, none⟩) 3 [.slice (at0 ob) l.length cap, .slice ia items.length icap, .int .i64 (used : Int)] w ∧ SlAt (at0 ob) l.length (u8s l) w) ?_ (fun w hw => ⟨hw.2.2.1, by simpa using hw.2.2.2.1⟩)
      simp only
      rw [← hrun]
      exact ⟨pb, ob, cap, rfl, fun h => (hob.1 h).1, hob.2, fun w hw => hw⟩
end Go.Proofs.YtjkchonpnocffaaDoor

/-
  Contracts: Pack, Used, Size (program).
-/
namespace Go.Proofs.YtjkchonpnocffaaDoor
open Go.AX Go.RowKit Go.Pack
set_option maxRecDepth 20000

def packV : Except Int (List UInt8 × Nat) → Value
  | .ok (l, _) => .tuple #[.string (bs l), .int .i64 0]
  | .error e => .tuple #[.string (bs []), .int .i64 e]
def usedV : Except Int (List UInt8 × Nat) → Value
  | .ok (_, u) => .tuple #[.int .i64 (u : Int), .int .i64 0]
  | .error e => .tuple #[.int .i64 0, .int .i64 e]
theorem Pack_c (form : List UInt8) (ia : Option Addr) (items : List Pack.Item) (icap : Nat) (hs : form.length ≤ 100000)
    (hia : items ≠ [] → ia.isSome = true) (hl : items.length ≤ 100000) (hi : ∀ x ∈ items, x.text.length ≤ 140737488351232 ∧ -9223372036854775808 ≤ x.int ∧ x.int < 9223372036854775808) :
    ∀ H, (∀ w, Facts H w → ItemsF ia items w) → SpecH Tryd.prog 17 (pvs [.string (bs form), .slice ia items.length icap]) H (Ret (packV (packS form items)) H) := by
  refine factC hm Tryd.func17 (by kernel_rfl) rfl rfl ?_
  (first | refine wX ?_ | exact wZ)
  refine SpecF.call (run_c form ia items icap hs hia hl hi) (fun w hw => hw.1) fun v G hR => ?_
  cases hp : packS form items with
  | error e =>
    rw [hp] at hR
    obtain rfl := hR
    have he := packS_err hp
    (first | refine wX ?_ | exact wZ)
    refine brd_ne (fun _ => ?_) (fun h6 => absurd h6 he)
    (first | refine wX ?_ | exact wZ)
    rfl
  | ok x =>
    obtain ⟨l, u⟩ := x
    rw [hp] at hR
    obtain ⟨pb, ob, cap, rfl, hob, hlc, hG⟩ := hR
    (first | refine wX ?_ | exact wZ)
    refine LdN.one (a := some ⟨pb, 0, none⟩) (q := 0) (.slice (at0 ob) l.length cap) rfl (fun w hw => (hG w hw.2.1).1) rfl ?_
    (first | refine wX ?_ | exact wZ)
    refine ReadW.bytes l rfl rfl rfl rfl rfl rfl (fun w hw => (hG w hw.2.1).2) ?_
    (first | refine wX ?_ | exact wZ)
    rfl
theorem Used_c (form : List UInt8) (ia : Option Addr) (items : List Pack.Item) (icap : Nat) (hs : form.length ≤ 100000)
    (hia : items ≠ [] → ia.isSome = true) (hl : items.length ≤ 100000) (hi : ∀ x ∈ items, x.text.length ≤ 140737488351232 ∧ -9223372036854775808 ≤ x.int ∧ x.int < 9223372036854775808) :
    ∀ H, (∀ w, Facts H w → ItemsF ia items w) → SpecH Tryd.prog 18 (pvs [.string (bs form), .slice ia items.length icap]) H (Ret (usedV (packS form items)) H) := by
  refine factC hm Tryd.func18 (by kernel_rfl) rfl rfl ?_
  (first | refine wX ?_ | exact wZ)
  refine SpecF.call (run_c form ia items icap hs hia hl hi) (fun w hw => hw.1) fun v G hR => ?_
  cases hp : packS form items with
  | error e =>
    rw [hp] at hR
    obtain rfl := hR
    have he := packS_err hp
    (first | refine wX ?_ | exact wZ)
    refine brd_ne (fun _ => ?_) (fun h6 => absurd h6 he)
    (first | refine wX ?_ | exact wZ)
    rfl
  | ok x =>
    obtain ⟨l, u⟩ := x
    rw [hp] at hR
    obtain ⟨pb, ob, cap, rfl, hob, hlc, hG⟩ := hR
    (first | refine wX ?_ | exact wZ)
    refine LdN.one (a := some ⟨pb, 0, none⟩) (q := 2) (.int .i64 (u : Int)) rfl (fun w hw => (hG w hw.2.1).1) rfl ?_
    (first | refine wX ?_ | exact wZ)
    rfl
end Go.Proofs.YtjkchonpnocffaaDoor

/-
  Contract: Size (program).
-/
namespace Go.Proofs.YtjkchonpnocffaaDoor
open Go.AX Go.RowKit Go.Pack
set_option maxRecDepth 20000

end Go.Proofs.YtjkchonpnocffaaDoor

/-
  Contracts: how many bytes are left, bytes are taken (program).
-/
namespace Go.Proofs.YtjkchonpnocffaaDoor
open Go.AX Go.RowKit Go.Pack
set_option maxRecDepth 20000

/-- An unpacker's cells. -/
def unC (s : List UInt8) (a : Nat) (out : Option Nat) (len cap : Nat) : List Value := [.string (bs s), .int .i64 (a : Int), .slice (at0 out) len cap]
def unE (ub : Nat) (s : List UInt8) (a : Nat) (out : Option Nat) (len cap : Nat) : Ent := .app 55 3 (unC s a out len cap) (some ⟨ub, 0, none⟩) 1 1
def UnF (ub : Nat) (s : List UInt8) (a : Nat) (out : Option Nat) (len cap : Nat) (w : World) : Prop := SlAt (some ⟨ub, 0, none⟩) 3 (unC s a out len cap) w
theorem left_c (ub : Nat) (s : List UInt8) (a : Nat) (out : Option Nat) (len cap : Nat) (ha : a ≤ s.length) (hs : s.length ≤ 1000000) :
    ∀ H, (∀ w, Facts H w → UnF ub s a out len cap w) → SpecH Tryd.prog 24 (pvs [.pointer (some ⟨ub, 0, none⟩)]) H (Ret (.int .i64 ((s.length - a : Nat) : Int)) H) := by
  refine factC hm Tryd.func24 (by kernel_rfl) rfl rfl ?_
  have hz := bs_size s
  (first | refine wX ?_ | exact wZ)
  refine LdN.one (a := some ⟨ub, 0, none⟩) (q := 0) (.string (bs s)) rfl (fun w hw => hw.1) rfl ?_
  (first | refine wX ?_ | exact wZ)
  refine LdN.one (a := some ⟨ub, 0, none⟩) (q := 1) (.int .i64 (a : Int)) rfl (fun w hw => hw.1) rfl ?_
  (first | refine wX ?_ | exact wZ)
  rw [Int.ofNat_sub ha, hz]
theorem cut_c (ub : Nat) (s : List UInt8) (a n : Nat) (out : Option Nat) (len cap : Nat) (ha : a + n ≤ s.length) (hs : s.length ≤ 1000000) :
    SpecH Tryd.prog 54 [.c (.v (.pointer (some ⟨ub, 0, none⟩))), .c (.v (.int .i64 (n : Int)))] [unE ub s a out len cap]
      (RetG (ι := Unit) (fun _ => True) (fun _ => .string (bs ((s.drop a).take n))) fun _ => [unE ub s (a + n) out len cap]) := by
  refine ownC hm Tryd.func54 (by kernel_rfl) rfl rfl (fun _ _ => okHB_eq rfl) (fun _ _ => Nat.le_refl _) ?_
  have hz := bs_size s
  (first | refine wX ?_ | exact wZ)
  refine LdN.one (a := some ⟨ub, 0, none⟩) (q := 0) (.string (bs s)) rfl (fun w hw => hw.1) rfl ?_
  (first | refine wX ?_ | exact wZ)
  refine LdN.one (a := some ⟨ub, 0, none⟩) (q := 1) (.int .i64 (a : Int)) rfl (fun w hw => hw.1) rfl ?_
  (first | refine wX ?_ | exact wZ)
  refine LdN.one (a := some ⟨ub, 0, none⟩) (q := 1) (.int .i64 (a : Int)) rfl (fun w hw => hw.1) rfl ?_
  (first | refine wX ?_ | exact wZ)
  refine ReadW.sl_lh a (a + n) rfl Tryd.underlying9 rfl rfl rfl ⟨rfl, by rw [wrap_i64 (by omega)]; omega, by omega, ha⟩ ?_
  (first | refine wX ?_ | exact wZ)
  refine LdN.one (a := some ⟨ub, 0, none⟩) (q := 1) (.int .i64 (a : Int)) rfl (fun w hw => hw.1) rfl ?_
  (first | refine wX ?_ | exact wZ)
  refine EffW.appTo (i := 0) (q := 1) (ys := [_]) (unC s (a + n) out len cap) 3 rfl rfl rfl rfl rfl rfl rfl (Nat.le_of_ble_eq_true rfl) (by
    show [_, Value.int .i64 _, _] = [_, Value.int .i64 _, _]
    rw [wrap_i64 (by omega)]
    rfl) rfl ?_
  (first | refine wX ?_ | exact wZ)
  refine ⟨(), trivial, ?_, wkE_refl _, wkH_nil _⟩
  rw [List.take_drop]
end Go.Proofs.YtjkchonpnocffaaDoor

/-
  Contract: a number in groups of 7 bits is read (program).
-/
namespace Go.Proofs.YtjkchonpnocffaaDoor
open Go.AX Go.RowKit Go.Pack
set_option maxRecDepth 20000

/-- What a reader of numbers gives: the number, the error, where it stands. -/
def NumOk (r : Except Int (Int × Nat)) (a len : Nat) (i : Int × Int × Nat) : Prop := match r with
  | .ok (n, k) => i = (n, 0, a + k) ∧ a + k ≤ len
  | .error e => i.1 = 0 ∧ i.2.1 = e ∧ i.2.2 ≤ len
def numV (i : Int × Int × Nat) : Value := .tuple #[.int .i64 i.1, .int .i64 i.2.1]
theorem lowF : ∀ y : Fin 256, IntKind.u8.wrap ((BitVec.ofInt 8 (y.val : Int) &&& BitVec.ofInt 8 127).toNat : Int) = ((y.val % 128 : Nat) : Int) := by decide +kernel
theorem low7 (c : UInt8) : IntKind.u8.wrap ((BitVec.ofInt IntKind.u8.bits (c.toNat : Int) &&& BitVec.ofInt IntKind.u8.bits 127).toNat : Int) = ((c.toNat % 128 : Nat) : Int) := lowF ⟨c.toNat, UInt8.toNat_lt c⟩
theorem grp_cons (f n i : Nat) (c : UInt8) (r : List UInt8) : grp (f + 1) n i (c :: r) = if i = 0 ∧ c = 128 then .error 5 else if c < 128 then .ok (n * 128 + c.toNat % 128, i + 1) else grp f (n * 128 + c.toNat % 128) (i + 1) r := rfl
theorem group_c (ub : Nat) (s : List UInt8) (a : Nat) (out : Option Nat) (len cap : Nat) (ha : a ≤ s.length) (hs : s.length ≤ 1000000) :
    SpecH Tryd.prog 83 [.c (.v (.pointer (some ⟨ub, 0, none⟩)))] [unE ub s a out len cap]
      (RetG (NumOk (grp 9 0 0 (s.drop a)) a s.length) numV fun i => [unE ub s i.2.2 out len cap]) := by
  refine ownC hm Tryd.func83 (by kernel_rfl) rfl rfl (fun _ _ => okHB_eq rfl) (fun _ _ => Nat.le_refl _) ?_
  (first | refine wX ?_ | exact wZ)
  refine LoopN.intro (Nat × Nat) (fun ⟨i, n⟩ => i ≤ 9 ∧ n < 128 ^ i ∧ a + i ≤ s.length ∧ grp (9 - i) n i (s.drop (a + i)) = grp 9 0 0 (s.drop a))
    (fun ⟨i, n⟩ => mkS Tryd.f83.ntmps 0 [(0, .c (.v (.pointer (some ⟨ub, 0, none⟩)))), (4, .c (.v (.int .i64 (n : Int)))), (5, .c (.v (.int .i64 (i : Int))))])
    (fun ⟨i, _⟩ => [unE ub s (a + i) out len cap]) (fun ⟨i, _⟩ => 10 - i) [] rfl
    (fun _ => rfl) (fun _ => rfl) (fun _ _ => okHB_eq rfl) ⟨(0, 0), ⟨Nat.zero_le _, by decide, ha, rfl⟩, ?_, ?_⟩ ?_
  · (repeat' (first | exact trivial | refine And.intro (by with_reducible rfl) ?_ | (with_reducible exact wkC_refl _) | (with_reducible exact wkCs_refl _) | refine And.intro ?_ ?_))
    all_goals rfl
  · exact ⟨wkE_refl _, wkH_nil _⟩
  rintro ⟨i, n⟩ ⟨hi, hn, hai, hg⟩
  (first | refine wX ?_ | exact wZ)
  refine call1 (left_c ub s (a + i) out len cap hai hs _ (fun w hw => hw.1)) ?_
  (first | refine wX ?_ | exact wZ)
  cases hd : s.drop (a + i) with
  | nil =>
    have hl := drop_end hd hai
    rw [hd] at hg
    have hg2 : grp 9 0 0 (s.drop a) = .error 14 := by rw [← hg]; cases (9 - i) <;> rfl
    refine brd_eq (fun h1 => ?_) (fun h1 => absurd (by omega) h1)
    (first | refine wX ?_ | exact wZ)
    exact ⟨(0, 14, a + i), by rw [hg2]; exact ⟨rfl, rfl, hai⟩, rfl, wkE_refl _, wkH_nil _⟩
  | cons c r =>
    obtain ⟨hb, hlt, hdr, hln⟩ := drop_at hd
    have hbi : byteAt (bs s) (Int.toNat ((a + i : Nat) : Int)) = (c.toNat : Int) := by rw [Int.toNat_natCast]; exact hb
    have hzs := bs_size s
    have h128 : ((c.toNat : Int) == 128) = (c == 128) := u8_eq (n := 128) (by decide)
    rw [hd] at hg
    refine brd_eq (fun h1 => absurd h1 (by omega)) (fun h1 => ?_)
    (first | refine wX ?_ | exact wZ)
    refine brd_eq (fun h9 => ?_) (fun h9 => ?_)
    · have hg2 : grp 9 0 0 (s.drop a) = .error 5 := by rw [← hg, show 9 - i = 0 by omega]; rfl
      (first | refine wX ?_ | exact wZ)
      exact ⟨(0, 5, a + i), by rw [hg2]; exact ⟨rfl, rfl, hai⟩, rfl, wkE_refl _, wkH_nil _⟩
    · obtain ⟨f, hf⟩ : ∃ f, 9 - i = f + 1 := ⟨8 - i, by omega⟩
      rw [hf, grp_cons] at hg
      have h56 : n < 72057594037927936 := Nat.lt_of_lt_of_le hn (Nat.pow_le_pow_right (by decide) (show i ≤ 8 by omega))
      (first | refine wX ?_ | exact wZ)
      refine brd_eq (fun h0 => ?_) (fun h0 => ?_)
      · (first | refine wX ?_ | exact wZ)
        refine LdN.one (a := some ⟨ub, 0, none⟩) (q := 0) (.string (bs s)) rfl (fun w hw => hw.1) rfl ?_
        (first | refine wX ?_ | exact wZ)
        refine LdN.one (a := some ⟨ub, 0, none⟩) (q := 1) (.int .i64 ((a + i : Nat) : Int)) rfl (fun w hw => hw.1) rfl ?_
        (first | refine wX ?_ | exact wZ)
        rw [hbi, h128]
        cases hc : c == 128 with
        | true =>
          have hg2 : grp 9 0 0 (s.drop a) = .error 5 := by rw [← hg, if_pos ⟨by omega, by simpa using hc⟩]
          (first | refine wX ?_ | exact wZ)
          exact ⟨(0, 5, a + i), by rw [hg2]; exact ⟨rfl, rfl, hai⟩, rfl, wkE_refl _, wkH_nil _⟩
        | false =>
          rw [if_neg (fun h => by rw [h.2] at hc; cases hc)] at hg
          (first | refine wX ?_ | exact wZ)
          refine callG (cut_c ub s (a + i) 1 out len cap (by omega) hs) [0] rfl ⟨rfl, trivial⟩ rfl fun _ _ => ?_
          rw [hd, show List.take 1 (c :: r) = [c] from rfl]
          have hb0 : byteAt (bs [c]) 0 = (c.toNat : Int) := rfl
          have hz1 : (bs [c]).size = 1 := rfl
          have hb1 : byteAt (bs [c]) (Int.toNat 0) = (c.toNat : Int) := rfl
          have hV : IntKind.i64.wrap (IntKind.i64.wrap ((n : Int) * 2 ^ min (Int.toNat 7) IntKind.i64.bits) + IntKind.i64.wrap (IntKind.u8.wrap ((BitVec.ofInt IntKind.u8.bits (byteAt (bs [c]) (Int.toNat 0)) &&& BitVec.ofInt IntKind.u8.bits 127).toNat : Int))) = ((n * 128 + c.toNat % 128 : Nat) : Int) := by
            rw [hb1, low7, show (2 : Int) ^ min (Int.toNat 7) IntKind.i64.bits = 128 from rfl, wrap_i64 (x := (n : Int) * 128) (by omega), wrap_i64 (x := ((c.toNat % 128 : Nat) : Int)) (by omega), wrap_i64 (by omega)]
            omega
          have hai1 : a + i + 1 ≤ s.length := by omega
          (first | refine wX ?_ | exact wZ)
          rw [hV, hb1]
          refine brd_dec (fun h2 => ?_) (fun h2 => ?_)
          · have hc2 : c < 128 := UInt8.lt_iff_toNat_lt.2 (by show c.toNat < 128; omega)
            rw [if_pos hc2] at hg
            (first | refine wX ?_ | exact wZ)
            exact ⟨(((n * 128 + c.toNat % 128 : Nat) : Int), 0, a + i + 1), by rw [← hg]; exact ⟨by rw [Nat.add_assoc]; rfl, by omega⟩, rfl, wkE_refl _, wkH_nil _⟩
          · have hc2 : ¬ c < 128 := fun h => h2 (by have h3 : c.toNat < 128 := UInt8.lt_iff_toNat_lt.1 h; omega)
            rw [if_neg hc2, ← hdr] at hg
            (first | refine wX ?_ | exact wZ)
            refine ⟨(i + 1, n * 128 + c.toNat % 128), ⟨by omega, by rw [Nat.pow_succ]; omega, by omega, by rw [show 9 - (i + 1) = f by omega]; exact hg⟩, by show 10 - (i + 1) < 10 - i; omega, ?_, ?_⟩
            · (repeat' (first | exact trivial | refine And.intro (by with_reducible rfl) ?_ | (with_reducible exact wkC_refl _) | (with_reducible exact wkCs_refl _) | refine And.intro ?_ ?_))
              all_goals first | rfl | exact av_int (by omega) | exact av_int (by rw [wrap_i64 (by omega)]; omega)
            · exact ⟨wkE_refl _, wkH_nil _⟩
      · rw [if_neg (fun h => h0 (by omega))] at hg
        (first | refine wX ?_ | exact wZ)
        refine callG (cut_c ub s (a + i) 1 out len cap (by omega) hs) [0] rfl ⟨rfl, trivial⟩ rfl fun _ _ => ?_
        rw [hd, show List.take 1 (c :: r) = [c] from rfl]
        have hb0 : byteAt (bs [c]) 0 = (c.toNat : Int) := rfl
        have hz1 : (bs [c]).size = 1 := rfl
        have hb1 : byteAt (bs [c]) (Int.toNat 0) = (c.toNat : Int) := rfl
        have hV : IntKind.i64.wrap (IntKind.i64.wrap ((n : Int) * 2 ^ min (Int.toNat 7) IntKind.i64.bits) + IntKind.i64.wrap (IntKind.u8.wrap ((BitVec.ofInt IntKind.u8.bits (byteAt (bs [c]) (Int.toNat 0)) &&& BitVec.ofInt IntKind.u8.bits 127).toNat : Int))) = ((n * 128 + c.toNat % 128 : Nat) : Int) := by
          rw [hb1, low7, show (2 : Int) ^ min (Int.toNat 7) IntKind.i64.bits = 128 from rfl, wrap_i64 (x := (n : Int) * 128) (by omega), wrap_i64 (x := ((c.toNat % 128 : Nat) : Int)) (by omega), wrap_i64 (by omega)]
          omega
        have hai1 : a + i + 1 ≤ s.length := by omega
        (first | refine wX ?_ | exact wZ)
        rw [hV, hb1]
        refine brd_dec (fun h2 => ?_) (fun h2 => ?_)
        · have hc2 : c < 128 := UInt8.lt_iff_toNat_lt.2 (by show c.toNat < 128; omega)
          rw [if_pos hc2] at hg
          (first | refine wX ?_ | exact wZ)
          exact ⟨(((n * 128 + c.toNat % 128 : Nat) : Int), 0, a + i + 1), by rw [← hg]; exact ⟨by rw [Nat.add_assoc]; rfl, by omega⟩, rfl, wkE_refl _, wkH_nil _⟩
        · have hc2 : ¬ c < 128 := fun h => h2 (by have h3 : c.toNat < 128 := UInt8.lt_iff_toNat_lt.1 h; omega)
          rw [if_neg hc2, ← hdr] at hg
          (first | refine wX ?_ | exact wZ)
          refine ⟨(i + 1, n * 128 + c.toNat % 128), ⟨by omega, by rw [Nat.pow_succ]; omega, by omega, by rw [show 9 - (i + 1) = f by omega]; exact hg⟩, by show 10 - (i + 1) < 10 - i; omega, ?_, ?_⟩
          · (repeat' (first | exact trivial | refine And.intro (by with_reducible rfl) ?_ | (with_reducible exact wkC_refl _) | (with_reducible exact wkCs_refl _) | refine And.intro ?_ ?_))
            all_goals first | rfl | exact av_int (by omega) | exact av_int (by rw [wrap_i64 (by omega)]; omega)
          · exact ⟨wkE_refl _, wkH_nil _⟩
end Go.Proofs.YtjkchonpnocffaaDoor

/-
  Contract: a number of a fixed size is read (program).
-/
namespace Go.Proofs.YtjkchonpnocffaaDoor
open Go.AX Go.RowKit Go.Pack
set_option maxRecDepth 20000

theorem or8 (n c : Nat) (hn : n < 72057594037927936) (hc : c < 256) : ((BitVec.ofInt 64 ((n * 256 : Nat) : Int) ||| BitVec.ofInt 64 (c : Int)).toNat : Int) = ((n * 256 + c : Nat) : Int) := by
  rw [BitVec.toNat_or, BitVec.toNat_ofInt, BitVec.toNat_ofInt]
  have e1 : (((n * 256 : Nat) : Int) % ((2 ^ 64 : Nat) : Int)).toNat = n * 256 := by omega
  have e2 : ((c : Int) % ((2 ^ 64 : Nat) : Int)).toNat = c := by omega
  rw [e1, e2]
  have := Nat.shiftLeft_add_eq_or_of_lt (b := c) (i := 8) (by omega) n
  rw [Nat.shiftLeft_eq] at this
  rw [show n * 256 = n * 2 ^ 8 from rfl, ← this]
theorem wrapU (x : Int) : IntKind.u64.wrap x = x % 18446744073709551616 := by simp [IntKind.wrap, IntKind.bits, IntKind.signed]
theorem step8 (n c : Nat) (hn : n < 72057594037927936) (hc : c < 256) : IntKind.u64.wrap ((BitVec.ofInt IntKind.u64.bits (IntKind.u64.wrap ((n : Int) * 2 ^ min (Int.toNat 8) IntKind.u64.bits)) ||| BitVec.ofInt IntKind.u64.bits (IntKind.u64.wrap (c : Int))).toNat : Int) = ((n * 256 + c : Nat) : Int) := by
  rw [show (2 : Int) ^ min (Int.toNat 8) IntKind.u64.bits = 256 from rfl, wrapU ((n : Int) * 256), wrapU (c : Int), show (n : Int) * 256 % 18446744073709551616 = ((n * 256 : Nat) : Int) by omega, show (c : Int) % 18446744073709551616 = (c : Int) by omega]
  show IntKind.u64.wrap ((BitVec.ofInt 64 ((n * 256 : Nat) : Int) ||| BitVec.ofInt 64 (c : Int)).toNat : Int) = _
  rw [or8 n c hn hc, wrapU]
  omega
theorem sz4 {c : UInt8} (h : sz c ≠ 0) : sz c = 1 ∨ sz c = 2 ∨ sz c = 4 ∨ sz c = 8 := by
  unfold sz at *
  split
  · exact .inl rfl
  split
  · exact .inr (.inl rfl)
  split
  · exact .inr (.inr (.inl rfl))
  split
  · exact .inr (.inr (.inr rfl))
  · rename_i h1 h2 h3 h4
    rw [if_neg h1, if_neg h2, if_neg h3, if_neg h4] at h
    exact absurd rfl h
theorem sgn1 (n : Nat) (hn : n < 256) : (IntKind.i64.wrap (IntKind.u64.wrap ((n : Int) * 2 ^ min (IntKind.i64.wrap (64 - IntKind.i64.wrap (8 * ((1 : Nat) : Int)))).toNat IntKind.u64.bits))).fdiv (2 ^ min (IntKind.i64.wrap (64 - IntKind.i64.wrap (8 * ((1 : Nat) : Int)))).toNat IntKind.i64.bits) = if n < 128 then (n : Int) else (n : Int) - 256 := by
  have hpu : (2 : Int) ^ min (IntKind.i64.wrap (64 - IntKind.i64.wrap (8 * ((1 : Nat) : Int)))).toNat IntKind.u64.bits = 72057594037927936 := by decide +kernel
  have hpi : (2 : Int) ^ min (IntKind.i64.wrap (64 - IntKind.i64.wrap (8 * ((1 : Nat) : Int)))).toNat IntKind.i64.bits = 72057594037927936 := by decide +kernel
  rw [hpu, hpi, wrap_u64_eq, Int.fdiv_eq_ediv_of_nonneg _ (by decide)]
  by_cases h : n < 128
  · rw [if_pos h, show (n : Int) * 72057594037927936 % 18446744073709551616 = (n : Int) * 72057594037927936 by omega, wrap_i64 (by omega)]
    omega
  · rw [if_neg h, show (n : Int) * 72057594037927936 % 18446744073709551616 = (n : Int) * 72057594037927936 by omega, wrap_eq, if_pos (by omega)]
    omega
theorem sgn2 (n : Nat) (hn : n < 65536) : (IntKind.i64.wrap (IntKind.u64.wrap ((n : Int) * 2 ^ min (IntKind.i64.wrap (64 - IntKind.i64.wrap (8 * ((2 : Nat) : Int)))).toNat IntKind.u64.bits))).fdiv (2 ^ min (IntKind.i64.wrap (64 - IntKind.i64.wrap (8 * ((2 : Nat) : Int)))).toNat IntKind.i64.bits) = if n < 32768 then (n : Int) else (n : Int) - 65536 := by
  have hpu : (2 : Int) ^ min (IntKind.i64.wrap (64 - IntKind.i64.wrap (8 * ((2 : Nat) : Int)))).toNat IntKind.u64.bits = 281474976710656 := by decide +kernel
  have hpi : (2 : Int) ^ min (IntKind.i64.wrap (64 - IntKind.i64.wrap (8 * ((2 : Nat) : Int)))).toNat IntKind.i64.bits = 281474976710656 := by decide +kernel
  rw [hpu, hpi, wrap_u64_eq, Int.fdiv_eq_ediv_of_nonneg _ (by decide)]
  by_cases h : n < 32768
  · rw [if_pos h, show (n : Int) * 281474976710656 % 18446744073709551616 = (n : Int) * 281474976710656 by omega, wrap_i64 (by omega)]
    omega
  · rw [if_neg h, show (n : Int) * 281474976710656 % 18446744073709551616 = (n : Int) * 281474976710656 by omega, wrap_eq, if_pos (by omega)]
    omega
theorem sgn4 (n : Nat) (hn : n < 4294967296) : (IntKind.i64.wrap (IntKind.u64.wrap ((n : Int) * 2 ^ min (IntKind.i64.wrap (64 - IntKind.i64.wrap (8 * ((4 : Nat) : Int)))).toNat IntKind.u64.bits))).fdiv (2 ^ min (IntKind.i64.wrap (64 - IntKind.i64.wrap (8 * ((4 : Nat) : Int)))).toNat IntKind.i64.bits) = if n < 2147483648 then (n : Int) else (n : Int) - 4294967296 := by
  have hpu : (2 : Int) ^ min (IntKind.i64.wrap (64 - IntKind.i64.wrap (8 * ((4 : Nat) : Int)))).toNat IntKind.u64.bits = 4294967296 := by decide +kernel
  have hpi : (2 : Int) ^ min (IntKind.i64.wrap (64 - IntKind.i64.wrap (8 * ((4 : Nat) : Int)))).toNat IntKind.i64.bits = 4294967296 := by decide +kernel
  rw [hpu, hpi, wrap_u64_eq, Int.fdiv_eq_ediv_of_nonneg _ (by decide)]
  by_cases h : n < 2147483648
  · rw [if_pos h, show (n : Int) * 4294967296 % 18446744073709551616 = (n : Int) * 4294967296 by omega, wrap_i64 (by omega)]
    omega
  · rw [if_neg h, show (n : Int) * 4294967296 % 18446744073709551616 = (n : Int) * 4294967296 by omega, wrap_eq, if_pos (by omega)]
    omega
theorem sgn8 (n : Nat) (hn : n < 18446744073709551616) : (IntKind.i64.wrap (IntKind.u64.wrap ((n : Int) * 2 ^ min (IntKind.i64.wrap (64 - IntKind.i64.wrap (8 * ((8 : Nat) : Int)))).toNat IntKind.u64.bits))).fdiv (2 ^ min (IntKind.i64.wrap (64 - IntKind.i64.wrap (8 * ((8 : Nat) : Int)))).toNat IntKind.i64.bits) = if n < 9223372036854775808 then (n : Int) else (n : Int) - 18446744073709551616 := by
  have hpu : (2 : Int) ^ min (IntKind.i64.wrap (64 - IntKind.i64.wrap (8 * ((8 : Nat) : Int)))).toNat IntKind.u64.bits = 1 := by decide +kernel
  have hpi : (2 : Int) ^ min (IntKind.i64.wrap (64 - IntKind.i64.wrap (8 * ((8 : Nat) : Int)))).toNat IntKind.i64.bits = 1 := by decide +kernel
  rw [hpu, hpi, wrap_u64_eq, Int.fdiv_eq_ediv_of_nonneg _ (by decide)]
  by_cases h : n < 9223372036854775808
  · rw [if_pos h, show (n : Int) * 1 % 18446744073709551616 = (n : Int) * 1 by omega, wrap_i64 (by omega)]
    omega
  · rw [if_neg h, show (n : Int) * 1 % 18446744073709551616 = (n : Int) * 1 by omega, wrap_eq, if_pos (by omega)]
    omega
theorem beN_snoc (l : List UInt8) (c : UInt8) : beN (l ++ [c]) = beN l * 256 + c.toNat := by simp [beN]
theorem fold_lt : ∀ (l : List UInt8) (n : Nat), l.foldl (fun n c => n * 256 + c.toNat) n < (n + 1) * 256 ^ l.length
  | [], n => by simp
  | c :: l, n => by
    have h := fold_lt l (n * 256 + c.toNat)
    have hc := UInt8.toNat_lt c
    have h2 : (n * 256 + c.toNat + 1) * 256 ^ l.length ≤ (n + 1) * 256 * 256 ^ l.length := Nat.mul_le_mul_right _ (by omega)
    show List.foldl _ (n * 256 + c.toNat) l < (n + 1) * 256 ^ (l.length + 1)
    rw [Nat.pow_succ, Nat.mul_comm (256 ^ l.length) 256, ← Nat.mul_assoc]
    omega
theorem beN_lt (l : List UInt8) : beN l < 256 ^ l.length := by
  have h := fold_lt l 0
  rw [Nat.zero_add, Nat.one_mul] at h
  exact h
theorem fixed_c (d : Dir) (ub : Nat) (s : List UInt8) (a : Nat) (out : Option Nat) (len cap : Nat) (hz0 : sz d.letter ≠ 0) (ha : a ≤ s.length) (hs : s.length ≤ 1000000) :
    SpecH Tryd.prog 85 [.c (.v (.pointer (some ⟨ub, 0, none⟩))), .c (.v (dirV d))] [unE ub s a out len cap]
      (RetG (NumOk (rdNum d (s.drop a)) a s.length) numV fun i => [unE ub s i.2.2 out len cap]) := by
  refine ownC hm Tryd.func85 (by kernel_rfl) rfl rfl (fun _ _ => okHB_eq rfl) (fun _ _ => Nat.le_refl _) ?_
  have h8 := sz_le8 d.letter
  have hrd : rdNum d (s.drop a) = if s.length - a < sz d.letter then .error 14 else match whl d ((s.drop a).take (sz d.letter)) with | .ok n => .ok (n, sz d.letter) | .error e => .error e := by
    unfold rdNum
    rw [if_neg (fun h => hz0 (by rw [show d.letter = 119 by simpa using h]; rfl)), if_neg (fun h => hz0 (by rw [show d.letter = 85 by simpa using h]; rfl)), List.length_drop]
    rfl
  (first | refine wX ?_ | exact wZ)
  refine callQ (left_c ub s a out len cap ha hs _ (fun w hw => hw.1)) ?_
  (first | refine wX ?_ | exact wZ)
  refine callQ (bytes_c d _) ?_
  (first | refine wX ?_ | exact wZ)
  refine brd_dec (fun h1 => ?_) (fun h1 => ?_)
  · rw [if_pos (by omega)] at hrd
    (first | refine wX ?_ | exact wZ)
    exact ⟨(0, 14, a), by rw [hrd]; exact ⟨rfl, rfl, ha⟩, rfl, wkE_refl _, wkH_nil _⟩
  · rw [if_neg (by omega)] at hrd
    (first | refine wX ?_ | exact wZ)
    refine call1 (bytes_c d _) ?_
    (first | refine wX ?_ | exact wZ)
    refine callG (cut_c ub s a (sz d.letter) out len cap (by omega) hs) [0] rfl ⟨rfl, trivial⟩ rfl fun _ _ => ?_
    obtain ⟨L, hL⟩ : ∃ L, (s.drop a).take (sz d.letter) = L := ⟨_, rfl⟩
    have hLl : L.length = sz d.letter := by rw [← hL, List.length_take, List.length_drop]; omega
    rw [hL] at hrd ⊢
    (first | refine wX ?_ | exact wZ)
    refine EffW.bytesOf (e := 5) L rfl Tryd.underlying9 (by kernel_rfl) (by kernel_rfl) rfl (by omega) fun lb lc h5 h6 => ?_
    (first | refine wX ?_ | exact wZ)
    refine call1 (high_c d _) ?_
    have hwl : whl d L = if sg d.letter then .ok (if beN (if hi d = true then L else L.reverse) < 2 ^ (8 * L.length - 1) then ((beN (if hi d = true then L else L.reverse) : Nat) : Int) else ((beN (if hi d = true then L else L.reverse) : Nat) : Int) - 2 ^ (8 * L.length)) else if beN (if hi d = true then L else L.reverse) < 2 ^ 63 then .ok ((beN (if hi d = true then L else L.reverse) : Nat) : Int) else .error 5 := rfl
    cases hh : hi d with
    | true =>
      rw [hh] at hwl
      -- L: the bytes, greatest first; they lie in entry 2 at lb
      have hTl : (L).length = sz d.letter := by first | exact hLl | (rw [List.length_reverse]; exact hLl)
      (first | refine wX ?_ | exact wZ)
      refine LoopN.intro Nat (fun j => j ≤ L.length) (fun j => mkS Tryd.f85.ntmps 0 [(0, .c (.v (.pointer (some ⟨ub, 0, none⟩)))), (3, .c (.lp 1 0)), (7, .c (.v (.int .u64 ((beN ((L).take j) : Nat) : Int)))), (26, .c (.v (.slice (some ⟨lb, 0, none⟩) L.length lc))), (27, .c (.v (.int .i64 (L.length : Int)))), (28, .c (.v (.int .i64 (j : Int))))])
        (fun _ => [unE ub s (a + sz d.letter) out len cap, .blk 57 [.v (.int .u8 (d.letter.toNat : Int)), .v (.bool d.big), .v (.int .i64 d.count)], own (L) lb lc]) (fun j => L.length - j) [] rfl
        (fun _ => rfl) (fun _ => rfl) (fun _ _ => okHB_eq rfl) ⟨0, Nat.zero_le _, ?_, ?_⟩ ?_
      · (repeat' (first | exact trivial | refine And.intro (by with_reducible rfl) ?_ | (with_reducible exact wkC_refl _) | (with_reducible exact wkCs_refl _) | refine And.intro ?_ ?_))
        all_goals rfl
      · exact ⟨wkE_refl _, wkE_refl _, wkE_refl _, wkH_nil _⟩
      intro j hj
      (first | refine wX ?_ | exact wZ)
      refine brd_dec (fun h1 => ?_) (fun h1 => ?_)
      · obtain ⟨c, hc⟩ : ∃ c, (L)[j]? = some c := ⟨_, List.getElem?_eq_getElem (by omega)⟩
        have hsn : (L).take (j + 1) = (L).take j ++ [c] := Pack.take_snoc hc
        have hbj : beN ((L).take j) < 72057594037927936 := by
          have h2 := beN_lt ((L).take j)
          rw [List.length_take, Nat.min_eq_left (by omega)] at h2
          exact Nat.lt_of_lt_of_le h2 (Nat.pow_le_pow_right (by decide) (show j ≤ 7 by omega))
        have hcl := UInt8.toNat_lt c
        (first | refine wX ?_ | exact wZ)
        refine Nd.mk ⟨rfl, by omega, by omega⟩ ?_
        (first | refine wX ?_ | exact wZ)
        refine LdN.one (.int .u8 (c.toNat : Int)) rfl (fun w hw => hw.2.1) (by
          show (u8s (L))[(j : Int).toNat * 1]? = _
          rw [Nat.mul_one, Int.toNat_natCast]
          exact u8s_at hc) ?_
        (first | refine wX ?_ | exact wZ)
        refine ⟨j + 1, by omega, by omega, ?_, by (repeat' (first | exact trivial | exact wkE_refl _ | refine And.intro ?_ ?_))⟩
        (repeat' (first | exact trivial | refine And.intro (by with_reducible rfl) ?_ | (with_reducible exact wkC_refl _) | (with_reducible exact wkCs_refl _) | refine And.intro ?_ ?_))
        all_goals first | rfl | exact av_int (by rw [wrap_i64 (by omega)]; omega) | exact av_int (by rw [step8 _ _ hbj hcl, hsn, beN_snoc])
      · have hj2 : j = L.length := by omega
        rw [show (L).take j = L from List.take_of_length_le (by omega)]
        have hbj : beN (L) < 256 ^ sz d.letter := by
          have h2 := beN_lt (L)
          rw [hTl] at h2
          exact h2
        (first | refine wX ?_ | exact wZ)
        refine call1 (signed_c d _) ?_
        cases hsg : sg d.letter with
        | true =>
          rw [hsg] at hwl
          rcases sz4 hz0 with hk | hk | hk | hk
          · skip
            -- L: the bytes; 1: how many; 72057594037927936: 2^(64 - 8 1); 256: 256^1; 128: the half of that
            have hby := bytes_c d
            rw [hk] at hby
            rw [hk] at hbj hLl
            have hb2 : beN (L) < 256 := hbj
            have hv := sgn1 (beN (L)) hb2
            have hwv : whl d L = .ok (if beN (L) < 128 then ((beN (L) : Nat) : Int) else ((beN (L) : Nat) : Int) - 256) := by
              rw [hwl, hLl]
              first | (rw [if_pos rfl, if_pos rfl]; rfl) | (rw [if_pos rfl, if_neg (show ¬ false = true by decide)]; rfl)
            rw [hwv] at hrd
            clear hwl hwv
            (first | refine wX ?_ | exact wZ)
            refine call1 (hby _) ?_
            (first | refine wX ?_ | exact wZ)
            rw [hv]
            refine ⟨((if beN (L) < 128 then ((beN (L) : Nat) : Int) else ((beN (L) : Nat) : Int) - 256), 0, a + sz d.letter), by rw [hrd]; exact ⟨rfl, by omega⟩, rfl, wkE_refl _, wkH_nil _⟩
          · skip
            -- L: the bytes; 2: how many; 281474976710656: 2^(64 - 8 2); 65536: 256^2; 32768: the half of that
            have hby := bytes_c d
            rw [hk] at hby
            rw [hk] at hbj hLl
            have hb2 : beN (L) < 65536 := hbj
            have hv := sgn2 (beN (L)) hb2
            have hwv : whl d L = .ok (if beN (L) < 32768 then ((beN (L) : Nat) : Int) else ((beN (L) : Nat) : Int) - 65536) := by
              rw [hwl, hLl]
              first | (rw [if_pos rfl, if_pos rfl]; rfl) | (rw [if_pos rfl, if_neg (show ¬ false = true by decide)]; rfl)
            rw [hwv] at hrd
            clear hwl hwv
            (first | refine wX ?_ | exact wZ)
            refine call1 (hby _) ?_
            (first | refine wX ?_ | exact wZ)
            rw [hv]
            refine ⟨((if beN (L) < 32768 then ((beN (L) : Nat) : Int) else ((beN (L) : Nat) : Int) - 65536), 0, a + sz d.letter), by rw [hrd]; exact ⟨rfl, by omega⟩, rfl, wkE_refl _, wkH_nil _⟩
          · skip
            -- L: the bytes; 4: how many; 4294967296: 2^(64 - 8 4); 4294967296: 256^4; 2147483648: the half of that
            have hby := bytes_c d
            rw [hk] at hby
            rw [hk] at hbj hLl
            have hb2 : beN (L) < 4294967296 := hbj
            have hv := sgn4 (beN (L)) hb2
            have hwv : whl d L = .ok (if beN (L) < 2147483648 then ((beN (L) : Nat) : Int) else ((beN (L) : Nat) : Int) - 4294967296) := by
              rw [hwl, hLl]
              first | (rw [if_pos rfl, if_pos rfl]; rfl) | (rw [if_pos rfl, if_neg (show ¬ false = true by decide)]; rfl)
            rw [hwv] at hrd
            clear hwl hwv
            (first | refine wX ?_ | exact wZ)
            refine call1 (hby _) ?_
            (first | refine wX ?_ | exact wZ)
            rw [hv]
            refine ⟨((if beN (L) < 2147483648 then ((beN (L) : Nat) : Int) else ((beN (L) : Nat) : Int) - 4294967296), 0, a + sz d.letter), by rw [hrd]; exact ⟨rfl, by omega⟩, rfl, wkE_refl _, wkH_nil _⟩
          · skip
            -- L: the bytes; 8: how many; 1: 2^(64 - 8 8); 18446744073709551616: 256^8; 9223372036854775808: the half of that
            have hby := bytes_c d
            rw [hk] at hby
            rw [hk] at hbj hLl
            have hb2 : beN (L) < 18446744073709551616 := hbj
            have hv := sgn8 (beN (L)) hb2
            have hwv : whl d L = .ok (if beN (L) < 9223372036854775808 then ((beN (L) : Nat) : Int) else ((beN (L) : Nat) : Int) - 18446744073709551616) := by
              rw [hwl, hLl]
              first | (rw [if_pos rfl, if_pos rfl]; rfl) | (rw [if_pos rfl, if_neg (show ¬ false = true by decide)]; rfl)
            rw [hwv] at hrd
            clear hwl hwv
            (first | refine wX ?_ | exact wZ)
            refine call1 (hby _) ?_
            (first | refine wX ?_ | exact wZ)
            rw [hv]
            refine ⟨((if beN (L) < 9223372036854775808 then ((beN (L) : Nat) : Int) else ((beN (L) : Nat) : Int) - 18446744073709551616), 0, a + sz d.letter), by rw [hrd]; exact ⟨rfl, by omega⟩, rfl, wkE_refl _, wkH_nil _⟩
        | false =>
          rw [hsg] at hwl
          have hb2 : beN (L) < 18446744073709551616 := Nat.lt_of_lt_of_le hbj (Nat.pow_le_pow_right (by decide) h8)
          have hp : (2 : Int) ^ min (Int.toNat 63) IntKind.u64.bits = 9223372036854775808 := by decide +kernel
          have hdv : (((beN (L) : Nat) : Int)).fdiv (2 ^ min (Int.toNat 63) IntKind.u64.bits) = ((beN (L) / 9223372036854775808 : Nat) : Int) := by
            rw [hp, Int.fdiv_eq_ediv_of_nonneg _ (by decide)]
            rfl
          (first | refine wX ?_ | exact wZ)
          rw [hdv]
          refine brd_dec (fun h2 => ?_) (fun h2 => ?_)
          · have hwv : whl d L = .error 5 := by
              rw [hwl]
              show (if beN (L) < 9223372036854775808 then _ else _) = _
              rw [if_neg (by omega)]
            rw [hwv] at hrd
            (first | refine wX ?_ | exact wZ)
            exact ⟨(0, 5, a + sz d.letter), by rw [hrd]; exact ⟨rfl, rfl, by show a + sz d.letter ≤ s.length; omega⟩, rfl, wkE_refl _, wkH_nil _⟩
          · have hwv : whl d L = .ok ((beN (L) : Nat) : Int) := by
              rw [hwl]
              show (if beN (L) < 9223372036854775808 then _ else _) = _
              rw [if_pos (by omega)]
              rfl
            rw [hwv] at hrd
            (first | refine wX ?_ | exact wZ)
            exact ⟨(((beN (L) : Nat) : Int), 0, a + sz d.letter), by rw [hrd]; exact ⟨rfl, by omega⟩, rfl, wkE_refl _, wkH_nil _⟩
    | false =>
      rw [hh] at hwl
      (first | refine wX ?_ | exact wZ)
      refine callG (Reverse_c L lb lc (by omega)) [2] rfl ⟨rfl, trivial⟩ rfl fun _ _ => ?_
      -- L.reverse: the bytes, greatest first; they lie in entry 2 at lb
      have hTl : (L.reverse).length = sz d.letter := by first | exact hLl | (rw [List.length_reverse]; exact hLl)
      (first | refine wX ?_ | exact wZ)
      refine LoopN.intro Nat (fun j => j ≤ L.length) (fun j => mkS Tryd.f85.ntmps 0 [(0, .c (.v (.pointer (some ⟨ub, 0, none⟩)))), (3, .c (.lp 1 0)), (7, .c (.v (.int .u64 ((beN ((L.reverse).take j) : Nat) : Int)))), (26, .c (.v (.slice (some ⟨lb, 0, none⟩) L.length lc))), (27, .c (.v (.int .i64 (L.length : Int)))), (28, .c (.v (.int .i64 (j : Int))))])
        (fun _ => [unE ub s (a + sz d.letter) out len cap, .blk 57 [.v (.int .u8 (d.letter.toNat : Int)), .v (.bool d.big), .v (.int .i64 d.count)], own (L.reverse) lb lc]) (fun j => L.length - j) [] rfl
        (fun _ => rfl) (fun _ => rfl) (fun _ _ => okHB_eq rfl) ⟨0, Nat.zero_le _, ?_, ?_⟩ ?_
      · (repeat' (first | exact trivial | refine And.intro (by with_reducible rfl) ?_ | (with_reducible exact wkC_refl _) | (with_reducible exact wkCs_refl _) | refine And.intro ?_ ?_))
        all_goals rfl
      · exact ⟨wkE_refl _, wkE_refl _, wkE_refl _, wkH_nil _⟩
      intro j hj
      (first | refine wX ?_ | exact wZ)
      refine brd_dec (fun h1 => ?_) (fun h1 => ?_)
      · obtain ⟨c, hc⟩ : ∃ c, (L.reverse)[j]? = some c := ⟨_, List.getElem?_eq_getElem (by omega)⟩
        have hsn : (L.reverse).take (j + 1) = (L.reverse).take j ++ [c] := Pack.take_snoc hc
        have hbj : beN ((L.reverse).take j) < 72057594037927936 := by
          have h2 := beN_lt ((L.reverse).take j)
          rw [List.length_take, Nat.min_eq_left (by omega)] at h2
          exact Nat.lt_of_lt_of_le h2 (Nat.pow_le_pow_right (by decide) (show j ≤ 7 by omega))
        have hcl := UInt8.toNat_lt c
        (first | refine wX ?_ | exact wZ)
        refine Nd.mk ⟨rfl, by omega, by omega⟩ ?_
        (first | refine wX ?_ | exact wZ)
        refine LdN.one (.int .u8 (c.toNat : Int)) rfl (fun w hw => hw.2.1) (by
          show (u8s (L.reverse))[(j : Int).toNat * 1]? = _
          rw [Nat.mul_one, Int.toNat_natCast]
          exact u8s_at hc) ?_
        (first | refine wX ?_ | exact wZ)
        refine ⟨j + 1, by omega, by omega, ?_, by (repeat' (first | exact trivial | exact wkE_refl _ | refine And.intro ?_ ?_))⟩
        (repeat' (first | exact trivial | refine And.intro (by with_reducible rfl) ?_ | (with_reducible exact wkC_refl _) | (with_reducible exact wkCs_refl _) | refine And.intro ?_ ?_))
        all_goals first | rfl | exact av_int (by rw [wrap_i64 (by omega)]; omega) | exact av_int (by rw [step8 _ _ hbj hcl, hsn, beN_snoc])
      · have hj2 : j = L.length := by omega
        rw [show (L.reverse).take j = L.reverse from List.take_of_length_le (by omega)]
        have hbj : beN (L.reverse) < 256 ^ sz d.letter := by
          have h2 := beN_lt (L.reverse)
          rw [hTl] at h2
          exact h2
        (first | refine wX ?_ | exact wZ)
        refine call1 (signed_c d _) ?_
        cases hsg : sg d.letter with
        | true =>
          rw [hsg] at hwl
          rcases sz4 hz0 with hk | hk | hk | hk
          · skip
            -- L.reverse: the bytes; 1: how many; 72057594037927936: 2^(64 - 8 1); 256: 256^1; 128: the half of that
            have hby := bytes_c d
            rw [hk] at hby
            rw [hk] at hbj hLl
            have hb2 : beN (L.reverse) < 256 := hbj
            have hv := sgn1 (beN (L.reverse)) hb2
            have hwv : whl d L = .ok (if beN (L.reverse) < 128 then ((beN (L.reverse) : Nat) : Int) else ((beN (L.reverse) : Nat) : Int) - 256) := by
              rw [hwl, hLl]
              first | (rw [if_pos rfl, if_pos rfl]; rfl) | (rw [if_pos rfl, if_neg (show ¬ false = true by decide)]; rfl)
            rw [hwv] at hrd
            clear hwl hwv
            (first | refine wX ?_ | exact wZ)
            refine call1 (hby _) ?_
            (first | refine wX ?_ | exact wZ)
            rw [hv]
            refine ⟨((if beN (L.reverse) < 128 then ((beN (L.reverse) : Nat) : Int) else ((beN (L.reverse) : Nat) : Int) - 256), 0, a + sz d.letter), by rw [hrd]; exact ⟨rfl, by omega⟩, rfl, wkE_refl _, wkH_nil _⟩
          · skip
            -- L.reverse: the bytes; 2: how many; 281474976710656: 2^(64 - 8 2); 65536: 256^2; 32768: the half of that
            have hby := bytes_c d
            rw [hk] at hby
            rw [hk] at hbj hLl
            have hb2 : beN (L.reverse) < 65536 := hbj
            have hv := sgn2 (beN (L.reverse)) hb2
            have hwv : whl d L = .ok (if beN (L.reverse) < 32768 then ((beN (L.reverse) : Nat) : Int) else ((beN (L.reverse) : Nat) : Int) - 65536) := by
              rw [hwl, hLl]
              first | (rw [if_pos rfl, if_pos rfl]; rfl) | (rw [if_pos rfl, if_neg (show ¬ false = true by decide)]; rfl)
            rw [hwv] at hrd
            clear hwl hwv
            (first | refine wX ?_ | exact wZ)
            refine call1 (hby _) ?_
            (first | refine wX ?_ | exact wZ)
            rw [hv]
            refine ⟨((if beN (L.reverse) < 32768 then ((beN (L.reverse) : Nat) : Int) else ((beN (L.reverse) : Nat) : Int) - 65536), 0, a + sz d.letter), by rw [hrd]; exact ⟨rfl, by omega⟩, rfl, wkE_refl _, wkH_nil _⟩
          · skip
            -- L.reverse: the bytes; 4: how many; 4294967296: 2^(64 - 8 4); 4294967296: 256^4; 2147483648: the half of that
            have hby := bytes_c d
            rw [hk] at hby
            rw [hk] at hbj hLl
            have hb2 : beN (L.reverse) < 4294967296 := hbj
            have hv := sgn4 (beN (L.reverse)) hb2
            have hwv : whl d L = .ok (if beN (L.reverse) < 2147483648 then ((beN (L.reverse) : Nat) : Int) else ((beN (L.reverse) : Nat) : Int) - 4294967296) := by
              rw [hwl, hLl]
              first | (rw [if_pos rfl, if_pos rfl]; rfl) | (rw [if_pos rfl, if_neg (show ¬ false = true by decide)]; rfl)
            rw [hwv] at hrd
            clear hwl hwv
            (first | refine wX ?_ | exact wZ)
            refine call1 (hby _) ?_
            (first | refine wX ?_ | exact wZ)
            rw [hv]
            refine ⟨((if beN (L.reverse) < 2147483648 then ((beN (L.reverse) : Nat) : Int) else ((beN (L.reverse) : Nat) : Int) - 4294967296), 0, a + sz d.letter), by rw [hrd]; exact ⟨rfl, by omega⟩, rfl, wkE_refl _, wkH_nil _⟩
          · skip
            -- L.reverse: the bytes; 8: how many; 1: 2^(64 - 8 8); 18446744073709551616: 256^8; 9223372036854775808: the half of that
            have hby := bytes_c d
            rw [hk] at hby
            rw [hk] at hbj hLl
            have hb2 : beN (L.reverse) < 18446744073709551616 := hbj
            have hv := sgn8 (beN (L.reverse)) hb2
            have hwv : whl d L = .ok (if beN (L.reverse) < 9223372036854775808 then ((beN (L.reverse) : Nat) : Int) else ((beN (L.reverse) : Nat) : Int) - 18446744073709551616) := by
              rw [hwl, hLl]
              first | (rw [if_pos rfl, if_pos rfl]; rfl) | (rw [if_pos rfl, if_neg (show ¬ false = true by decide)]; rfl)
            rw [hwv] at hrd
            clear hwl hwv
            (first | refine wX ?_ | exact wZ)
            refine call1 (hby _) ?_
            (first | refine wX ?_ | exact wZ)
            rw [hv]
            refine ⟨((if beN (L.reverse) < 9223372036854775808 then ((beN (L.reverse) : Nat) : Int) else ((beN (L.reverse) : Nat) : Int) - 18446744073709551616), 0, a + sz d.letter), by rw [hrd]; exact ⟨rfl, by omega⟩, rfl, wkE_refl _, wkH_nil _⟩
        | false =>
          rw [hsg] at hwl
          have hb2 : beN (L.reverse) < 18446744073709551616 := Nat.lt_of_lt_of_le hbj (Nat.pow_le_pow_right (by decide) h8)
          have hp : (2 : Int) ^ min (Int.toNat 63) IntKind.u64.bits = 9223372036854775808 := by decide +kernel
          have hdv : (((beN (L.reverse) : Nat) : Int)).fdiv (2 ^ min (Int.toNat 63) IntKind.u64.bits) = ((beN (L.reverse) / 9223372036854775808 : Nat) : Int) := by
            rw [hp, Int.fdiv_eq_ediv_of_nonneg _ (by decide)]
            rfl
          (first | refine wX ?_ | exact wZ)
          rw [hdv]
          refine brd_dec (fun h2 => ?_) (fun h2 => ?_)
          · have hwv : whl d L = .error 5 := by
              rw [hwl]
              show (if beN (L.reverse) < 9223372036854775808 then _ else _) = _
              rw [if_neg (by omega)]
            rw [hwv] at hrd
            (first | refine wX ?_ | exact wZ)
            exact ⟨(0, 5, a + sz d.letter), by rw [hrd]; exact ⟨rfl, rfl, by show a + sz d.letter ≤ s.length; omega⟩, rfl, wkE_refl _, wkH_nil _⟩
          · have hwv : whl d L = .ok ((beN (L.reverse) : Nat) : Int) := by
              rw [hwl]
              show (if beN (L.reverse) < 9223372036854775808 then _ else _) = _
              rw [if_pos (by omega)]
              rfl
            rw [hwv] at hrd
            (first | refine wX ?_ | exact wZ)
            exact ⟨(((beN (L.reverse) : Nat) : Int), 0, a + sz d.letter), by rw [hrd]; exact ⟨rfl, by omega⟩, rfl, wkE_refl _, wkH_nil _⟩
end Go.Proofs.YtjkchonpnocffaaDoor

/-
  Contract: a number is read (program).
-/
namespace Go.Proofs.YtjkchonpnocffaaDoor
open Go.AX Go.RowKit Go.Pack
set_option maxRecDepth 20000

theorem bs_get (s : List UInt8) (i : Nat) : ((bs s).get! i).toNat = (s[i]?.map UInt8.toNat).getD 0 := by
  unfold bs ByteArray.get!
  simp only [List.getElem!_toArray, List.getElem!_eq_getElem?_getD]
  cases s[i]? <;> rfl
theorem cont_iff (c : UInt8) : cont c = true ↔ c.toNat / 64 = 2 := by
  unfold cont
  rw [Bool.and_eq_true, decide_eq_true_eq, decide_eq_true_eq, UInt8.le_iff_toNat_le, UInt8.lt_iff_toNat_lt]
  show 128 ≤ c.toNat ∧ c.toNat < 192 ↔ _
  omega
theorem u8_lt (a : UInt8) (n : Nat) (h : n < 256) : a < UInt8.ofNat n ↔ a.toNat < n := by
  rw [UInt8.lt_iff_toNat_lt, UInt8.toNat_ofNat']
  rw [Nat.mod_eq_of_lt (by omega)]
theorem u8_le (a : UInt8) (n : Nat) (h : n < 256) : UInt8.ofNat n ≤ a ↔ n ≤ a.toNat := by
  rw [UInt8.le_iff_toNat_le, UInt8.toNat_ofNat']
  rw [Nat.mod_eq_of_lt (by omega)]
def orErr : Option (Nat × Nat) → Nat × Nat
  | some x => x
  | none => (65533, 1)
theorem orErr_ite (c : Prop) [Decidable c] (x y : Option (Nat × Nat)) : orErr (if c then x else y) = if c then orErr x else orErr y := by split <;> rfl
theorem orErr_some (x : Nat × Nat) : orErr (some x) = x := rfl
theorem orErr_none : orErr none = (65533, 1) := rfl
theorem dec1 (a : UInt8) : Lib.decodeGo (bs [a]) = orErr (runeD [a]) := by
  unfold Lib.decodeGo
  rw [if_neg (by rw [bs_size]; simp), Lib.decode_at, bs_get, bs_get, bs_get, bs_get, bs_size]
  have ha := UInt8.toNat_lt a
  have e1 : (a < 128) = (a.toNat < 128) := propext (u8_lt a 128 (by decide))
  have e2 : (192 ≤ a) = (192 ≤ a.toNat) := propext (u8_le a 192 (by decide))
  have e3 : (a < 224) = (a.toNat < 224) := propext (u8_lt a 224 (by decide))
  have e4 : (224 ≤ a) = (224 ≤ a.toNat) := propext (u8_le a 224 (by decide))
  have e5 : (a < 240) = (a.toNat < 240) := propext (u8_lt a 240 (by decide))
  have e6 : (240 ≤ a) = (240 ≤ a.toNat) := propext (u8_le a 240 (by decide))
  have e7 : (a < 248) = (a.toNat < 248) := propext (u8_lt a 248 (by decide))
  simp only [runeD, Lib.decodeN, orErr_ite, orErr_some, orErr_none, e1, e2, e3, e4, e5, e6, e7, Bool.and_eq_true, decide_eq_true_eq, List.length_cons, List.getElem?_cons_zero, List.getElem?_cons_succ, List.length_nil, List.getElem?_nil, Option.map, Option.getD]
  clear e1 e2 e3 e4 e5 e6 e7
  generalize a.toNat = A at *
  rcases (by omega : A < 128 ∨ (128 ≤ A ∧ A < 192) ∨ (192 ≤ A ∧ A < 224) ∨ (224 ≤ A ∧ A < 240) ∨ (240 ≤ A ∧ A < 248) ∨ 248 ≤ A) with h | h | h | h | h | h
  all_goals simp (disch := omega) only [if_pos, if_neg]
  all_goals (repeat' split)
  all_goals first | rfl | (exfalso; omega) | (congr 1; omega)
theorem dec2 (a b : UInt8) : Lib.decodeGo (bs [a, b]) = orErr (runeD [a, b]) := by
  unfold Lib.decodeGo
  rw [if_neg (by rw [bs_size]; simp), Lib.decode_at, bs_get, bs_get, bs_get, bs_get, bs_size]
  have ha := UInt8.toNat_lt a
  have e1 : (a < 128) = (a.toNat < 128) := propext (u8_lt a 128 (by decide))
  have e2 : (192 ≤ a) = (192 ≤ a.toNat) := propext (u8_le a 192 (by decide))
  have e3 : (a < 224) = (a.toNat < 224) := propext (u8_lt a 224 (by decide))
  have e4 : (224 ≤ a) = (224 ≤ a.toNat) := propext (u8_le a 224 (by decide))
  have e5 : (a < 240) = (a.toNat < 240) := propext (u8_lt a 240 (by decide))
  have e6 : (240 ≤ a) = (240 ≤ a.toNat) := propext (u8_le a 240 (by decide))
  have e7 : (a < 248) = (a.toNat < 248) := propext (u8_lt a 248 (by decide))
  have hb := UInt8.toNat_lt b
  simp only [runeD, Lib.decodeN, orErr_ite, orErr_some, orErr_none, e1, e2, e3, e4, e5, e6, e7, Bool.and_eq_true, decide_eq_true_eq, cont_iff, List.length_cons, List.getElem?_cons_zero, List.getElem?_cons_succ, List.length_nil, List.getElem?_nil, Option.map, Option.getD]
  clear e1 e2 e3 e4 e5 e6 e7
  generalize a.toNat = A at *
  rcases (by omega : A < 128 ∨ (128 ≤ A ∧ A < 192) ∨ (192 ≤ A ∧ A < 224) ∨ (224 ≤ A ∧ A < 240) ∨ (240 ≤ A ∧ A < 248) ∨ 248 ≤ A) with h | h | h | h | h | h
  all_goals simp (disch := omega) only [if_pos, if_neg]
  all_goals (repeat' split)
  all_goals first | rfl | (exfalso; omega) | (congr 1; omega)
theorem dec3 (a b c : UInt8) : Lib.decodeGo (bs [a, b, c]) = orErr (runeD [a, b, c]) := by
  unfold Lib.decodeGo
  rw [if_neg (by rw [bs_size]; simp), Lib.decode_at, bs_get, bs_get, bs_get, bs_get, bs_size]
  have ha := UInt8.toNat_lt a
  have e1 : (a < 128) = (a.toNat < 128) := propext (u8_lt a 128 (by decide))
  have e2 : (192 ≤ a) = (192 ≤ a.toNat) := propext (u8_le a 192 (by decide))
  have e3 : (a < 224) = (a.toNat < 224) := propext (u8_lt a 224 (by decide))
  have e4 : (224 ≤ a) = (224 ≤ a.toNat) := propext (u8_le a 224 (by decide))
  have e5 : (a < 240) = (a.toNat < 240) := propext (u8_lt a 240 (by decide))
  have e6 : (240 ≤ a) = (240 ≤ a.toNat) := propext (u8_le a 240 (by decide))
  have e7 : (a < 248) = (a.toNat < 248) := propext (u8_lt a 248 (by decide))
  have hb := UInt8.toNat_lt b
  have hc := UInt8.toNat_lt c
  simp only [runeD, Lib.decodeN, orErr_ite, orErr_some, orErr_none, e1, e2, e3, e4, e5, e6, e7, Bool.and_eq_true, Bool.or_eq_true, decide_eq_true_eq, cont_iff, List.length_cons, List.getElem?_cons_zero, List.getElem?_cons_succ, List.length_nil, List.getElem?_nil, Option.map, Option.getD]
  clear e1 e2 e3 e4 e5 e6 e7
  generalize a.toNat = A at *
  rcases (by omega : A < 128 ∨ (128 ≤ A ∧ A < 192) ∨ (192 ≤ A ∧ A < 224) ∨ (224 ≤ A ∧ A < 240) ∨ (240 ≤ A ∧ A < 248) ∨ 248 ≤ A) with h | h | h | h | h | h
  all_goals simp (disch := omega) only [if_pos, if_neg]
  all_goals (repeat' split)
  all_goals first | rfl | (exfalso; omega) | (congr 1; omega)
theorem dec4 (a b c d : UInt8) (r : List UInt8) : Lib.decodeGo (bs (a :: b :: c :: d :: r)) = orErr (runeD (a :: b :: c :: d :: r)) := by
  unfold Lib.decodeGo
  rw [if_neg (by rw [bs_size]; simp), Lib.decode_at, bs_get, bs_get, bs_get, bs_get, bs_size]
  have ha := UInt8.toNat_lt a
  have e1 : (a < 128) = (a.toNat < 128) := propext (u8_lt a 128 (by decide))
  have e2 : (192 ≤ a) = (192 ≤ a.toNat) := propext (u8_le a 192 (by decide))
  have e3 : (a < 224) = (a.toNat < 224) := propext (u8_lt a 224 (by decide))
  have e4 : (224 ≤ a) = (224 ≤ a.toNat) := propext (u8_le a 224 (by decide))
  have e5 : (a < 240) = (a.toNat < 240) := propext (u8_lt a 240 (by decide))
  have e6 : (240 ≤ a) = (240 ≤ a.toNat) := propext (u8_le a 240 (by decide))
  have e7 : (a < 248) = (a.toNat < 248) := propext (u8_lt a 248 (by decide))
  have hb := UInt8.toNat_lt b
  have hc := UInt8.toNat_lt c
  have hd := UInt8.toNat_lt d
  simp only [runeD, Lib.decodeN, orErr_ite, orErr_some, orErr_none, e1, e2, e3, e4, e5, e6, e7, Bool.and_eq_true, Bool.or_eq_true, decide_eq_true_eq, cont_iff, List.length_cons, List.getElem?_cons_zero, List.getElem?_cons_succ, Option.map, Option.getD]
  clear e1 e2 e3 e4 e5 e6 e7
  generalize a.toNat = A at *
  rcases (by omega : A < 128 ∨ (128 ≤ A ∧ A < 192) ∨ (192 ≤ A ∧ A < 224) ∨ (224 ≤ A ∧ A < 240) ∨ (240 ≤ A ∧ A < 248) ∨ 248 ≤ A) with h | h | h | h | h | h
  all_goals simp (disch := omega) only [if_pos, if_neg]
  all_goals (repeat' split)
  all_goals first | rfl | (exfalso; omega) | (congr 1; omega)
theorem dec_eq (a : UInt8) (r : List UInt8) : Lib.decodeGo (bs (a :: r)) = orErr (runeD (a :: r)) := by
  rcases r with _ | ⟨b, _ | ⟨c, _ | ⟨d, r⟩⟩⟩
  · exact dec1 a
  · exact dec2 a b
  · exact dec3 a b c
  · exact dec4 a b c d r
end Go.Proofs.YtjkchonpnocffaaDoor
