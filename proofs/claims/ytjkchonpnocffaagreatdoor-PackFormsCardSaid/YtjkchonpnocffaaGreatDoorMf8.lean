/-
  Lemmas (D8 D9 D10 D11 D12 D13 E1).
-/
import Derived.Test.YtjkchonpnocffaaGreatDoorMf7
/-
  Contract: a character is read, byte by byte (document).
-/
namespace Go.Proofs.YtjkchonpnocffaaGreatDoor
open Go.AX Go.RowKit Go.Pack
set_option maxRecDepth 20000

theorem oneT_cons (a : UInt8) (r : List UInt8) : oneT (a :: r) = if a.toNat < 128 then (1, (a.toNat : Int))
    else if 192 ≤ a.toNat ∧ a.toNat < 224 then if bgP (a.toNat - 192) 1 2 then oneR 2 (a.toNat - 192) 1 r else (1, -1)
    else if 224 ≤ a.toNat ∧ a.toNat < 240 then if bgP (a.toNat - 224) 1 3 then oneR 3 (a.toNat - 224) 1 r else (1, -1)
    else if 240 ≤ a.toNat ∧ a.toNat < 248 then if bgP (a.toNat - 240) 1 4 then oneR 4 (a.toNat - 240) 1 r else (1, -1)
    else (1, -1) := rfl
theorem pow64 (k : Nat) : 1 ≤ 64 ^ k := by
  have := Nat.pow_le_pow_left (show 1 ≤ 64 by decide) k
  rwa [Nat.one_pow] at this
theorem cont_of (c : UInt8) : cont c = (decide (128 ≤ c.toNat) && decide (c.toNat < 192)) := rfl
set_option maxHeartbeats 2000000 in
theorem One_r (a : UInt8) (r : List UInt8) (hs : (a :: r).length ≤ 1000000) : ∀ H, SpecH Tryz.prog 45 (pvs [.string (bs (a :: r))]) H (Ret (.tuple #[.int .i64 ((oneT (a :: r)).1 : Int), .int .i64 (oneT (a :: r)).2]) H) := by
  refine pureC hm Tryz.func45 (by kernel_rfl) rfl rfl ?_
  have hzs := bs_size (a :: r)
  have hb0 : byteAt (bs (a :: r)) (Int.toNat 0) = (a.toNat : Int) := byteAt_get rfl
  have ha := UInt8.toNat_lt a
  have hpos : (0 : Int) < ((bs (a :: r)).size : Int) := by rw [hzs]; simp
  (first | refine wX ?_ | exact wZ)
  try refine Nd.mk ⟨by omega, by omega⟩ ?_
  (first | refine wX ?_ | exact wZ)
  rw [hb0]
  refine brd_dec (fun h1 => ?_) (fun h1 => ?_)
  · have hT : oneT (a :: r) = (1, (a.toNat : Int)) := by rw [oneT_cons, if_pos (by omega)]
    rw [hT]
    (first | refine wX ?_ | exact wZ)
    try rfl
  · (first | refine wX ?_ | exact wZ)
    refine brd_dec (fun h2 => ?_) (fun h2 => ?_)
    · (first | refine wX ?_ | exact wZ)
      refine brd_dec (fun h3 => ?_) (fun h3 => ?_)
      · skip
        -- 2: how many bytes; 192: the least first byte
        have hT : oneT (a :: r) = if bgP (a.toNat - 192) 1 2 then oneR 2 (a.toNat - 192) 1 r else (1, -1) := by
          rw [oneT_cons]
          simp (disch := omega) only [if_pos, if_neg]
        have hbi : IntKind.i64.wrap ((a.toNat : Int) - 192) = ((a.toNat - 192 : Nat) : Int) := by rw [wrap_i64 (by omega)]; omega
        have hbj : (a.toNat : Int) - 192 = ((a.toNat - 192 : Nat) : Int) := by omega
        (first | refine wX ?_ | exact wZ)
        first | rw [hbj] | rw [hbi]
        refine call1 (begins_r (a.toNat - 192) 1 2 ⟨by decide, by decide⟩ (by omega) (by omega) _) ?_
        by_cases hg : bgP (a.toNat - 192) 1 2
        · rw [decide_eq_true hg]
          rw [if_pos hg] at hT
          (first | refine wX ?_ | exact wZ)
          refine LoopN.intro (Nat × Nat) (fun ⟨b, n⟩ => 1 ≤ n ∧ n ≤ 2 ∧ n ≤ (a :: r).length ∧ (b + 1) * 64 ^ (2 - n) ≤ 2097152 ∧ oneR 2 b n ((a :: r).drop n) = oneT (a :: r))
            (fun ⟨b, n⟩ => mkS Tryz.f45.ntmps 0 [(0, .c (.v (.string (bs (a :: r))))), (5, .c (.v (.int .i64 2))), (6, .c (.v (.int .i64 (b : Int)))), (7, .c (.v (.int .i64 (n : Int))))])
            (fun _ => []) (fun ⟨_, n⟩ => 2 - n) [] rfl (fun _ => rfl) (fun _ => rfl) (fun _ _ => okHB_eq rfl) ⟨(a.toNat - 192, 1), ⟨Nat.le_refl _, by decide, by simp, by show (a.toNat - 192 + 1) * _ ≤ _; omega, hT.symm⟩, ?_, trivial⟩ ?_
          · (repeat' (first | exact trivial | refine And.intro (by with_reducible rfl) ?_ | (with_reducible exact wkC_refl _) | (with_reducible exact wkCs_refl _) | refine And.intro ?_ ?_))
            all_goals rfl
          rintro ⟨b, n⟩ ⟨hn1, hnl, hns, hbb, hgo⟩
          have hp1 : 1 ≤ 64 ^ (2 - n) := pow64 _
          have hbl : b < 2097152 := by
            have := Nat.mul_le_mul (Nat.le_refl (b + 1)) hp1
            omega
          (first | refine wX ?_ | exact wZ)
          refine brd_dec (fun h7 => ?_) (fun h7 => ?_)
          · (first | refine wX ?_ | exact wZ)
            rw [hzs]
            refine brd_dec (fun h8 => ?_) (fun h8 => ?_)
            · obtain ⟨c, hc⟩ : ∃ c, (a :: r)[n]? = some c := ⟨_, List.getElem?_eq_getElem (by omega)⟩
              have hcl := UInt8.toNat_lt c
              have hbc : byteAt (bs (a :: r)) (Int.toNat (n : Int)) = (c.toNat : Int) := by rw [Int.toNat_natCast]; exact byteAt_get hc
              have hdr : (a :: r).drop n = c :: (a :: r).drop (n + 1) := by
                rw [List.drop_eq_getElem_cons (by omega), (List.getElem?_eq_some_iff.1 hc).2]
              rw [hdr] at hgo
              (first | refine wX ?_ | exact wZ)
              rw [hbc]
              refine brd_dec (fun h9 => ?_) (fun h9 => ?_)
              · (first | refine wX ?_ | exact wZ)
                try rw [hbc]
                refine brd_dec (fun h10 => ?_) (fun h10 => ?_)
                · have hcc : cont c = true := by
                    rw [cont_of, decide_eq_true (show 128 ≤ c.toNat by omega), decide_eq_true (show c.toNat < 192 by omega)]
                    rfl
                  have hpw : 64 ^ (2 - n) = 64 ^ (2 - (n + 1)) * 64 := by rw [show 2 - n = (2 - (n + 1)) + 1 by omega, Nat.pow_succ]
                  have hp2 : 1 ≤ 64 ^ (2 - (n + 1)) := pow64 _
                  have hb2 : (b * 64 + (c.toNat - 128) + 1) * 64 ^ (2 - (n + 1)) ≤ 2097152 := by
                    refine Nat.le_trans (Nat.mul_le_mul_right _ (show b * 64 + (c.toNat - 128) + 1 ≤ (b + 1) * 64 by omega)) ?_
                    rw [Nat.mul_assoc, Nat.mul_comm 64, ← hpw]
                    exact hbb
                  have hbl2 : b * 64 + (c.toNat - 128) < 2097152 := by
                    have := Nat.mul_le_mul (Nat.le_refl (b * 64 + (c.toNat - 128) + 1)) hp2
                    omega
                  (first | refine wX ?_ | exact wZ)
                  try rw [hbc]
                  have hv : IntKind.i64.wrap (IntKind.i64.wrap (IntKind.i64.wrap ((b : Int) * 64) + IntKind.i64.wrap (c.toNat : Int)) - 128) = ((b * 64 + (c.toNat - 128) : Nat) : Int) := by
                    rw [wrap_i64 (x := (b : Int) * 64) (by omega), wrap_i64 (x := (c.toNat : Int)) (by omega), wrap_i64 (x := (b : Int) * 64 + (c.toNat : Int)) (by omega), wrap_i64 (by omega)]
                    omega
                  have hn9 : IntKind.i64.wrap ((n : Int) + 1) = ((n + 1 : Nat) : Int) := by rw [wrap_i64 (by omega)]; omega
                  rw [hv, hn9]
                  refine call1 (begins_r (b * 64 + (c.toNat - 128)) (n + 1) 2 ⟨by omega, by omega⟩ (by omega) hbl2 _) ?_
                  by_cases hg2 : bgP (b * 64 + (c.toNat - 128)) (n + 1) 2
                  · rw [decide_eq_true hg2]
                    rw [oneR_yes (by omega) hcc hg2] at hgo
                    (first | refine wX ?_ | exact wZ)
                    try rw [hbc]
                    refine ⟨(b * 64 + (c.toNat - 128), n + 1), ⟨by omega, by omega, by omega, hb2, hgo⟩, by show 2 - (n + 1) < 2 - n; omega, ?_, trivial⟩
                    (repeat' (first | exact trivial | refine And.intro (by with_reducible rfl) ?_ | (with_reducible exact wkC_refl _) | (with_reducible exact wkCs_refl _) | refine And.intro ?_ ?_))
                    all_goals first | rfl | exact av_int (by first | omega | (rw [wrap_i64 (by omega)]; omega))
                  · rw [decide_eq_false hg2]
                    skip
                    rw [oneR_no (by omega) (fun h => hg2 h.2)] at hgo
                    rw [← hgo]
                    (first | refine wX ?_ | exact wZ)
                    refine brd_dec (fun _ => ?_) (fun h => absurd h7 h)
                    (first | refine wX ?_ | exact wZ)
                    try rfl
                · skip
                  skip
                  rw [oneR_no (by omega) (fun h => absurd h.1 (by rw [cont_of, decide_eq_false (show ¬ c.toNat < 192 by omega), Bool.and_false]; decide))] at hgo
                  rw [← hgo]
                  (first | refine wX ?_ | exact wZ)
                  refine brd_dec (fun _ => ?_) (fun h => absurd h7 h)
                  (first | refine wX ?_ | exact wZ)
                  try rfl
              · skip
                skip
                rw [oneR_no (by omega) (fun h => absurd h.1 (by rw [cont_of, decide_eq_false (show ¬ 128 ≤ c.toNat by omega)]; simp))] at hgo
                rw [← hgo]
                (first | refine wX ?_ | exact wZ)
                refine brd_dec (fun _ => ?_) (fun h => absurd h7 h)
                (first | refine wX ?_ | exact wZ)
                try rfl
            · have hdr : (a :: r).drop n = [] := List.drop_of_length_le (by omega)
              rw [hdr, oneR_nil (by omega)] at hgo
              rw [← hgo]
              (first | refine wX ?_ | exact wZ)
              refine brd_dec (fun _ => ?_) (fun h => absurd h7 h)
              (first | refine wX ?_ | exact wZ)
              try rfl
          · have hne : n = 2 := by omega
            rw [hne, oneR_end] at hgo
            rw [← hgo]
            (first | refine wX ?_ | exact wZ)
            refine brd_dec (fun h => absurd h h7) (fun _ => ?_)
            (first | refine wX ?_ | exact wZ)
            rw [hne]
        · rw [decide_eq_false hg]
          rw [if_neg hg] at hT
          rw [hT]
          (first | refine wX ?_ | exact wZ)
          try rfl
      · (first | refine wX ?_ | exact wZ)
        refine brd_dec (fun _ => ?_) (fun h => absurd (by omega) h)
        (first | refine wX ?_ | exact wZ)
        refine brd_dec (fun h4 => ?_) (fun h4 => ?_)
        · skip
          -- 3: how many bytes; 224: the least first byte
          have hT : oneT (a :: r) = if bgP (a.toNat - 224) 1 3 then oneR 3 (a.toNat - 224) 1 r else (1, -1) := by
            rw [oneT_cons]
            simp (disch := omega) only [if_pos, if_neg]
          have hbi : IntKind.i64.wrap ((a.toNat : Int) - 224) = ((a.toNat - 224 : Nat) : Int) := by rw [wrap_i64 (by omega)]; omega
          have hbj : (a.toNat : Int) - 224 = ((a.toNat - 224 : Nat) : Int) := by omega
          (first | refine wX ?_ | exact wZ)
          first | rw [hbj] | rw [hbi]
          refine call1 (begins_r (a.toNat - 224) 1 3 ⟨by decide, by decide⟩ (by omega) (by omega) _) ?_
          by_cases hg : bgP (a.toNat - 224) 1 3
          · rw [decide_eq_true hg]
            rw [if_pos hg] at hT
            (first | refine wX ?_ | exact wZ)
            refine LoopN.intro (Nat × Nat) (fun ⟨b, n⟩ => 1 ≤ n ∧ n ≤ 3 ∧ n ≤ (a :: r).length ∧ (b + 1) * 64 ^ (3 - n) ≤ 2097152 ∧ oneR 3 b n ((a :: r).drop n) = oneT (a :: r))
              (fun ⟨b, n⟩ => mkS Tryz.f45.ntmps 0 [(0, .c (.v (.string (bs (a :: r))))), (5, .c (.v (.int .i64 3))), (6, .c (.v (.int .i64 (b : Int)))), (7, .c (.v (.int .i64 (n : Int))))])
              (fun _ => []) (fun ⟨_, n⟩ => 3 - n) [] rfl (fun _ => rfl) (fun _ => rfl) (fun _ _ => okHB_eq rfl) ⟨(a.toNat - 224, 1), ⟨Nat.le_refl _, by decide, by simp, by show (a.toNat - 224 + 1) * _ ≤ _; omega, hT.symm⟩, ?_, trivial⟩ ?_
            · (repeat' (first | exact trivial | refine And.intro (by with_reducible rfl) ?_ | (with_reducible exact wkC_refl _) | (with_reducible exact wkCs_refl _) | refine And.intro ?_ ?_))
              all_goals rfl
            rintro ⟨b, n⟩ ⟨hn1, hnl, hns, hbb, hgo⟩
            have hp1 : 1 ≤ 64 ^ (3 - n) := pow64 _
            have hbl : b < 2097152 := by
              have := Nat.mul_le_mul (Nat.le_refl (b + 1)) hp1
              omega
            (first | refine wX ?_ | exact wZ)
            refine brd_dec (fun h7 => ?_) (fun h7 => ?_)
            · (first | refine wX ?_ | exact wZ)
              rw [hzs]
              refine brd_dec (fun h8 => ?_) (fun h8 => ?_)
              · obtain ⟨c, hc⟩ : ∃ c, (a :: r)[n]? = some c := ⟨_, List.getElem?_eq_getElem (by omega)⟩
                have hcl := UInt8.toNat_lt c
                have hbc : byteAt (bs (a :: r)) (Int.toNat (n : Int)) = (c.toNat : Int) := by rw [Int.toNat_natCast]; exact byteAt_get hc
                have hdr : (a :: r).drop n = c :: (a :: r).drop (n + 1) := by
                  rw [List.drop_eq_getElem_cons (by omega), (List.getElem?_eq_some_iff.1 hc).2]
                rw [hdr] at hgo
                (first | refine wX ?_ | exact wZ)
                rw [hbc]
                refine brd_dec (fun h9 => ?_) (fun h9 => ?_)
                · (first | refine wX ?_ | exact wZ)
                  try rw [hbc]
                  refine brd_dec (fun h10 => ?_) (fun h10 => ?_)
                  · have hcc : cont c = true := by
                      rw [cont_of, decide_eq_true (show 128 ≤ c.toNat by omega), decide_eq_true (show c.toNat < 192 by omega)]
                      rfl
                    have hpw : 64 ^ (3 - n) = 64 ^ (3 - (n + 1)) * 64 := by rw [show 3 - n = (3 - (n + 1)) + 1 by omega, Nat.pow_succ]
                    have hp2 : 1 ≤ 64 ^ (3 - (n + 1)) := pow64 _
                    have hb2 : (b * 64 + (c.toNat - 128) + 1) * 64 ^ (3 - (n + 1)) ≤ 2097152 := by
                      refine Nat.le_trans (Nat.mul_le_mul_right _ (show b * 64 + (c.toNat - 128) + 1 ≤ (b + 1) * 64 by omega)) ?_
                      rw [Nat.mul_assoc, Nat.mul_comm 64, ← hpw]
                      exact hbb
                    have hbl2 : b * 64 + (c.toNat - 128) < 2097152 := by
                      have := Nat.mul_le_mul (Nat.le_refl (b * 64 + (c.toNat - 128) + 1)) hp2
                      omega
                    (first | refine wX ?_ | exact wZ)
                    try rw [hbc]
                    have hv : IntKind.i64.wrap (IntKind.i64.wrap (IntKind.i64.wrap ((b : Int) * 64) + IntKind.i64.wrap (c.toNat : Int)) - 128) = ((b * 64 + (c.toNat - 128) : Nat) : Int) := by
                      rw [wrap_i64 (x := (b : Int) * 64) (by omega), wrap_i64 (x := (c.toNat : Int)) (by omega), wrap_i64 (x := (b : Int) * 64 + (c.toNat : Int)) (by omega), wrap_i64 (by omega)]
                      omega
                    have hn9 : IntKind.i64.wrap ((n : Int) + 1) = ((n + 1 : Nat) : Int) := by rw [wrap_i64 (by omega)]; omega
                    rw [hv, hn9]
                    refine call1 (begins_r (b * 64 + (c.toNat - 128)) (n + 1) 3 ⟨by omega, by omega⟩ (by omega) hbl2 _) ?_
                    by_cases hg2 : bgP (b * 64 + (c.toNat - 128)) (n + 1) 3
                    · rw [decide_eq_true hg2]
                      rw [oneR_yes (by omega) hcc hg2] at hgo
                      (first | refine wX ?_ | exact wZ)
                      try rw [hbc]
                      refine ⟨(b * 64 + (c.toNat - 128), n + 1), ⟨by omega, by omega, by omega, hb2, hgo⟩, by show 3 - (n + 1) < 3 - n; omega, ?_, trivial⟩
                      (repeat' (first | exact trivial | refine And.intro (by with_reducible rfl) ?_ | (with_reducible exact wkC_refl _) | (with_reducible exact wkCs_refl _) | refine And.intro ?_ ?_))
                      all_goals first | rfl | exact av_int (by first | omega | (rw [wrap_i64 (by omega)]; omega))
                    · rw [decide_eq_false hg2]
                      skip
                      rw [oneR_no (by omega) (fun h => hg2 h.2)] at hgo
                      rw [← hgo]
                      (first | refine wX ?_ | exact wZ)
                      refine brd_dec (fun _ => ?_) (fun h => absurd h7 h)
                      (first | refine wX ?_ | exact wZ)
                      try rfl
                  · skip
                    skip
                    rw [oneR_no (by omega) (fun h => absurd h.1 (by rw [cont_of, decide_eq_false (show ¬ c.toNat < 192 by omega), Bool.and_false]; decide))] at hgo
                    rw [← hgo]
                    (first | refine wX ?_ | exact wZ)
                    refine brd_dec (fun _ => ?_) (fun h => absurd h7 h)
                    (first | refine wX ?_ | exact wZ)
                    try rfl
                · skip
                  skip
                  rw [oneR_no (by omega) (fun h => absurd h.1 (by rw [cont_of, decide_eq_false (show ¬ 128 ≤ c.toNat by omega)]; simp))] at hgo
                  rw [← hgo]
                  (first | refine wX ?_ | exact wZ)
                  refine brd_dec (fun _ => ?_) (fun h => absurd h7 h)
                  (first | refine wX ?_ | exact wZ)
                  try rfl
              · have hdr : (a :: r).drop n = [] := List.drop_of_length_le (by omega)
                rw [hdr, oneR_nil (by omega)] at hgo
                rw [← hgo]
                (first | refine wX ?_ | exact wZ)
                refine brd_dec (fun _ => ?_) (fun h => absurd h7 h)
                (first | refine wX ?_ | exact wZ)
                try rfl
            · have hne : n = 3 := by omega
              rw [hne, oneR_end] at hgo
              rw [← hgo]
              (first | refine wX ?_ | exact wZ)
              refine brd_dec (fun h => absurd h h7) (fun _ => ?_)
              (first | refine wX ?_ | exact wZ)
              rw [hne]
          · rw [decide_eq_false hg]
            rw [if_neg hg] at hT
            rw [hT]
            (first | refine wX ?_ | exact wZ)
            try rfl
        · (first | refine wX ?_ | exact wZ)
          refine brd_dec (fun _ => ?_) (fun h => absurd (by omega) h)
          (first | refine wX ?_ | exact wZ)
          refine brd_dec (fun h5 => ?_) (fun h5 => ?_)
          · skip
            -- 4: how many bytes; 240: the least first byte
            have hT : oneT (a :: r) = if bgP (a.toNat - 240) 1 4 then oneR 4 (a.toNat - 240) 1 r else (1, -1) := by
              rw [oneT_cons]
              simp (disch := omega) only [if_pos, if_neg]
            have hbi : IntKind.i64.wrap ((a.toNat : Int) - 240) = ((a.toNat - 240 : Nat) : Int) := by rw [wrap_i64 (by omega)]; omega
            have hbj : (a.toNat : Int) - 240 = ((a.toNat - 240 : Nat) : Int) := by omega
            (first | refine wX ?_ | exact wZ)
            first | rw [hbj] | rw [hbi]
            refine call1 (begins_r (a.toNat - 240) 1 4 ⟨by decide, by decide⟩ (by omega) (by omega) _) ?_
            by_cases hg : bgP (a.toNat - 240) 1 4
            · rw [decide_eq_true hg]
              rw [if_pos hg] at hT
              (first | refine wX ?_ | exact wZ)
              refine LoopN.intro (Nat × Nat) (fun ⟨b, n⟩ => 1 ≤ n ∧ n ≤ 4 ∧ n ≤ (a :: r).length ∧ (b + 1) * 64 ^ (4 - n) ≤ 2097152 ∧ oneR 4 b n ((a :: r).drop n) = oneT (a :: r))
                (fun ⟨b, n⟩ => mkS Tryz.f45.ntmps 0 [(0, .c (.v (.string (bs (a :: r))))), (5, .c (.v (.int .i64 4))), (6, .c (.v (.int .i64 (b : Int)))), (7, .c (.v (.int .i64 (n : Int))))])
                (fun _ => []) (fun ⟨_, n⟩ => 4 - n) [] rfl (fun _ => rfl) (fun _ => rfl) (fun _ _ => okHB_eq rfl) ⟨(a.toNat - 240, 1), ⟨Nat.le_refl _, by decide, by simp, by show (a.toNat - 240 + 1) * _ ≤ _; omega, hT.symm⟩, ?_, trivial⟩ ?_
              · (repeat' (first | exact trivial | refine And.intro (by with_reducible rfl) ?_ | (with_reducible exact wkC_refl _) | (with_reducible exact wkCs_refl _) | refine And.intro ?_ ?_))
                all_goals rfl
              rintro ⟨b, n⟩ ⟨hn1, hnl, hns, hbb, hgo⟩
              have hp1 : 1 ≤ 64 ^ (4 - n) := pow64 _
              have hbl : b < 2097152 := by
                have := Nat.mul_le_mul (Nat.le_refl (b + 1)) hp1
                omega
              (first | refine wX ?_ | exact wZ)
              refine brd_dec (fun h7 => ?_) (fun h7 => ?_)
              · (first | refine wX ?_ | exact wZ)
                rw [hzs]
                refine brd_dec (fun h8 => ?_) (fun h8 => ?_)
                · obtain ⟨c, hc⟩ : ∃ c, (a :: r)[n]? = some c := ⟨_, List.getElem?_eq_getElem (by omega)⟩
                  have hcl := UInt8.toNat_lt c
                  have hbc : byteAt (bs (a :: r)) (Int.toNat (n : Int)) = (c.toNat : Int) := by rw [Int.toNat_natCast]; exact byteAt_get hc
                  have hdr : (a :: r).drop n = c :: (a :: r).drop (n + 1) := by
                    rw [List.drop_eq_getElem_cons (by omega), (List.getElem?_eq_some_iff.1 hc).2]
                  rw [hdr] at hgo
                  (first | refine wX ?_ | exact wZ)
                  rw [hbc]
                  refine brd_dec (fun h9 => ?_) (fun h9 => ?_)
                  · (first | refine wX ?_ | exact wZ)
                    try rw [hbc]
                    refine brd_dec (fun h10 => ?_) (fun h10 => ?_)
                    · have hcc : cont c = true := by
                        rw [cont_of, decide_eq_true (show 128 ≤ c.toNat by omega), decide_eq_true (show c.toNat < 192 by omega)]
                        rfl
                      have hpw : 64 ^ (4 - n) = 64 ^ (4 - (n + 1)) * 64 := by rw [show 4 - n = (4 - (n + 1)) + 1 by omega, Nat.pow_succ]
                      have hp2 : 1 ≤ 64 ^ (4 - (n + 1)) := pow64 _
                      have hb2 : (b * 64 + (c.toNat - 128) + 1) * 64 ^ (4 - (n + 1)) ≤ 2097152 := by
                        refine Nat.le_trans (Nat.mul_le_mul_right _ (show b * 64 + (c.toNat - 128) + 1 ≤ (b + 1) * 64 by omega)) ?_
                        rw [Nat.mul_assoc, Nat.mul_comm 64, ← hpw]
                        exact hbb
                      have hbl2 : b * 64 + (c.toNat - 128) < 2097152 := by
                        have := Nat.mul_le_mul (Nat.le_refl (b * 64 + (c.toNat - 128) + 1)) hp2
                        omega
                      (first | refine wX ?_ | exact wZ)
                      try rw [hbc]
                      have hv : IntKind.i64.wrap (IntKind.i64.wrap (IntKind.i64.wrap ((b : Int) * 64) + IntKind.i64.wrap (c.toNat : Int)) - 128) = ((b * 64 + (c.toNat - 128) : Nat) : Int) := by
                        rw [wrap_i64 (x := (b : Int) * 64) (by omega), wrap_i64 (x := (c.toNat : Int)) (by omega), wrap_i64 (x := (b : Int) * 64 + (c.toNat : Int)) (by omega), wrap_i64 (by omega)]
                        omega
                      have hn9 : IntKind.i64.wrap ((n : Int) + 1) = ((n + 1 : Nat) : Int) := by rw [wrap_i64 (by omega)]; omega
                      rw [hv, hn9]
                      refine call1 (begins_r (b * 64 + (c.toNat - 128)) (n + 1) 4 ⟨by omega, by omega⟩ (by omega) hbl2 _) ?_
                      by_cases hg2 : bgP (b * 64 + (c.toNat - 128)) (n + 1) 4
                      · rw [decide_eq_true hg2]
                        rw [oneR_yes (by omega) hcc hg2] at hgo
                        (first | refine wX ?_ | exact wZ)
                        try rw [hbc]
                        refine ⟨(b * 64 + (c.toNat - 128), n + 1), ⟨by omega, by omega, by omega, hb2, hgo⟩, by show 4 - (n + 1) < 4 - n; omega, ?_, trivial⟩
                        (repeat' (first | exact trivial | refine And.intro (by with_reducible rfl) ?_ | (with_reducible exact wkC_refl _) | (with_reducible exact wkCs_refl _) | refine And.intro ?_ ?_))
                        all_goals first | rfl | exact av_int (by first | omega | (rw [wrap_i64 (by omega)]; omega))
                      · rw [decide_eq_false hg2]
                        skip
                        rw [oneR_no (by omega) (fun h => hg2 h.2)] at hgo
                        rw [← hgo]
                        (first | refine wX ?_ | exact wZ)
                        refine brd_dec (fun _ => ?_) (fun h => absurd h7 h)
                        (first | refine wX ?_ | exact wZ)
                        try rfl
                    · skip
                      skip
                      rw [oneR_no (by omega) (fun h => absurd h.1 (by rw [cont_of, decide_eq_false (show ¬ c.toNat < 192 by omega), Bool.and_false]; decide))] at hgo
                      rw [← hgo]
                      (first | refine wX ?_ | exact wZ)
                      refine brd_dec (fun _ => ?_) (fun h => absurd h7 h)
                      (first | refine wX ?_ | exact wZ)
                      try rfl
                  · skip
                    skip
                    rw [oneR_no (by omega) (fun h => absurd h.1 (by rw [cont_of, decide_eq_false (show ¬ 128 ≤ c.toNat by omega)]; simp))] at hgo
                    rw [← hgo]
                    (first | refine wX ?_ | exact wZ)
                    refine brd_dec (fun _ => ?_) (fun h => absurd h7 h)
                    (first | refine wX ?_ | exact wZ)
                    try rfl
                · have hdr : (a :: r).drop n = [] := List.drop_of_length_le (by omega)
                  rw [hdr, oneR_nil (by omega)] at hgo
                  rw [← hgo]
                  (first | refine wX ?_ | exact wZ)
                  refine brd_dec (fun _ => ?_) (fun h => absurd h7 h)
                  (first | refine wX ?_ | exact wZ)
                  try rfl
              · have hne : n = 4 := by omega
                rw [hne, oneR_end] at hgo
                rw [← hgo]
                (first | refine wX ?_ | exact wZ)
                refine brd_dec (fun h => absurd h h7) (fun _ => ?_)
                (first | refine wX ?_ | exact wZ)
                rw [hne]
            · rw [decide_eq_false hg]
              rw [if_neg hg] at hT
              rw [hT]
              (first | refine wX ?_ | exact wZ)
              try rfl
          · have hT : oneT (a :: r) = (1, -1) := by
              rw [oneT_cons]
              simp (disch := omega) only [if_neg]
            rw [hT]
            (first | refine wX ?_ | exact wZ)
            try rfl
    · have hT : oneT (a :: r) = (1, -1) := by
        rw [oneT_cons]
        simp (disch := omega) only [if_neg]
      rw [hT]
      (first | refine wX ?_ | exact wZ)
      refine brd_dec (fun h => absurd h (by omega)) (fun _ => ?_)
      (first | refine wX ?_ | exact wZ)
      refine brd_dec (fun h => absurd h (by omega)) (fun _ => ?_)
      (first | refine wX ?_ | exact wZ)
      try rfl
end Go.Proofs.YtjkchonpnocffaaGreatDoor

/-
  Contract: a number of a fixed size is read (document).
-/
namespace Go.Proofs.YtjkchonpnocffaaGreatDoor
open Go.AX Go.RowKit Go.Pack
set_option maxRecDepth 20000

theorem fold_cons (t : List UInt8) : ∀ n : Nat, t.foldl (fun n c => n * 256 + c.toNat) n = n * 256 ^ t.length + beN t := by
  induction t with
  | nil => intro n; simp [beN]
  | cons c t ih =>
    intro n
    have h1 := ih (n * 256 + c.toNat)
    have h2 := ih (0 * 256 + c.toNat)
    show List.foldl _ (n * 256 + c.toNat) t = _
    rw [h1]
    have h3 : beN (c :: t) = (0 * 256 + c.toNat) * 256 ^ t.length + beN t := h2
    rw [h3, List.length_cons, Nat.pow_succ, Nat.add_mul, Nat.zero_mul, Nat.zero_add, Nat.mul_comm (256 ^ t.length) 256, ← Nat.mul_assoc]
    omega
theorem beN_cons (c : UInt8) (t : List UInt8) : beN (c :: t) = c.toNat * 256 ^ t.length + beN t := by
  have h := fold_cons t (0 * 256 + c.toNat)
  rw [Nat.zero_mul, Nat.zero_add] at h
  have h2 : beN (c :: t) = List.foldl (fun n c => n * 256 + c.toNat) (0 * 256 + c.toNat) t := rfl
  rw [h2, Nat.zero_mul, Nat.zero_add, h]
def whlV (r : Except Int Int) : Value := match r with
  | .ok n => .tuple #[.int .i64 n, .int .i64 0]
  | .error e => .tuple #[.int .i64 0, .int .i64 e]
theorem sz_small {c : UInt8} (hz : sz c ≠ 0) (hs : sg c = false) (h : c ≠ 81) : sz c ≤ 4 := by
  rcases sz_cases hz with rfl | rfl | rfl | rfl | rfl | rfl | rfl | rfl | rfl | rfl <;> first | decide | (exact absurd rfl h) | (exact absurd hs (by decide))
set_option maxHeartbeats 2000000 in
theorem whole_r (d : Dir) (L : List UInt8) (hz0 : sz d.letter ≠ 0) (hLl : L.length = sz d.letter) : ∀ H, SpecH Tryz.prog 44 (pvs [dirV d, .string (bs L)]) H (Ret (whlV (whl d L)) H) := by
  refine pureC hm Tryz.func44 (by kernel_rfl) rfl rfl ?_
  have h8 := sz_le8 d.letter
  have h81 : ((d.letter.toNat : Int) == 81) = (d.letter == 81) := u8_eq (n := 81) (by decide)
  have h110 : ((d.letter.toNat : Int) == 110) = (d.letter == 110) := u8_eq (n := 110) (by decide)
  have h78 : ((d.letter.toNat : Int) == 78) = (d.letter == 78) := u8_eq (n := 78) (by decide)
  have hwl : whl d L = if sg d.letter then .ok (if beN (if hi d = true then L else L.reverse) < 2 ^ (8 * L.length - 1) then ((beN (if hi d = true then L else L.reverse) : Nat) : Int) else ((beN (if hi d = true then L else L.reverse) : Nat) : Int) - 2 ^ (8 * L.length)) else if beN (if hi d = true then L else L.reverse) < 2 ^ 63 then .ok ((beN (if hi d = true then L else L.reverse) : Nat) : Int) else .error 5 := rfl
  (first | refine wX ?_ | exact wZ)
  refine EffW.bytesOf (e := 5) L rfl Tryz.underlying9 (by kernel_rfl) (by kernel_rfl) rfl (by omega) fun lb lc h5 h6 => ?_
  (first | refine wX ?_ | exact wZ)
  cases hbg : d.big with
  | true =>
    have hh : hi d = true := by unfold hi; rw [hbg]; rfl
    rw [hh] at hwl
    -- L: the bytes, greatest first; they lie at rb; hw.1: their entry's fact; own L lb lc: the entries of bytes; wkE_refl _, wkH_nil _: that they are; true: big
    have hTl : (L).length = sz d.letter := by first | exact hLl | (rw [List.length_reverse]; exact hLl)
    (first | refine wX ?_ | exact wZ)
    refine LoopN.intro Nat (fun j => j ≤ L.length) (fun j => mkS Tryz.f44.ntmps 0 [(2, .c (.lp 0 0)), (6, .c (.v (.slice (some ⟨lb, 0, none⟩) (L).length lc))), (7, .c (.v (.int .u64 ((beN ((L).take j) : Nat) : Int)))), (8, .c (.v (.int .i64 (j : Int))))])
      (fun _ => [.blk 66 [.v (.int .u8 (d.letter.toNat : Int)), .v (.bool true), .v (.int .i64 d.count)], own L lb lc]) (fun j => L.length - j) [] rfl
      (fun _ => rfl) (fun _ => rfl) (fun _ _ => okHB_eq rfl) ⟨0, Nat.zero_le _, ?_, ?_⟩ ?_
    · (repeat' (first | exact trivial | refine And.intro (by with_reducible rfl) ?_ | (with_reducible exact wkC_refl _) | (with_reducible exact wkCs_refl _) | refine And.intro ?_ ?_))
      all_goals rfl
    · exact ⟨by first | exact wkE_refl _ | (unfold dirV; rw [hbg]; exact wkE_refl _), wkE_refl _, wkH_nil _⟩
    intro j hj
    have hll : (L).length = L.length := by omega
    (first | refine wX ?_ | exact wZ)
    refine brd_dec (fun h1 => ?_) (fun h1 => ?_)
    · obtain ⟨c, hc⟩ : ∃ c, (L)[j]? = some c := ⟨_, List.getElem?_eq_getElem (by omega)⟩
      have hsn : (L).take (j + 1) = (L).take j ++ [c] := Pack.take_snoc hc
      have hbj : beN ((L).take j) < 72057594037927936 := by
        have h2 := beN_lt ((L).take j)
        rw [List.length_take, Nat.min_eq_left (by omega)] at h2
        exact Nat.lt_of_lt_of_le h2 (Nat.pow_le_pow_right (by decide) (show j ≤ 7 by omega))
      have hcl := UInt8.toNat_lt c
      (first | refine wX ?_ | exact wZ)
      refine Nd.mk ⟨rfl, by omega, by omega⟩ ?_
      (first | refine wX ?_ | exact wZ)
      refine LdN.one (.int .u8 (c.toNat : Int)) rfl (fun w hw => hw.1) (by
        show (u8s (L))[(j : Int).toNat * 1]? = _
        rw [Nat.mul_one, Int.toNat_natCast]
        exact u8s_at hc) ?_
      (first | refine wX ?_ | exact wZ)
      refine ⟨j + 1, by omega, by omega, ?_, by (repeat' (first | exact trivial | exact wkE_refl _ | refine And.intro ?_ ?_))⟩
      (repeat' (first | exact trivial | refine And.intro (by with_reducible rfl) ?_ | (with_reducible exact wkC_refl _) | (with_reducible exact wkCs_refl _) | refine And.intro ?_ ?_))
      all_goals first | rfl | exact av_int (by first | omega | (rw [wrap_i64 (by omega)]; omega)) | exact av_int (by rw [wrap_u64 (x := (c.toNat : Int)) (by omega), wrap_u64 (x := _ * 256) (by omega), wrap_u64 (by omega), hsn, beN_snoc]; omega)
    · rw [show (L).take j = L from List.take_of_length_le (by omega)]
      have hbj : beN (L) < 256 ^ sz d.letter := by
        have h2 := beN_lt (L)
        rw [hTl] at h2
        exact h2
      have hb64 : beN (L) < 18446744073709551616 := Nat.lt_of_lt_of_le hbj (Nat.pow_le_pow_right (by decide) h8)
      obtain ⟨c, t, hct⟩ : ∃ c t, L = c :: t := by
        cases hL0 : L with
        | nil => rw [hL0] at hTl; exact absurd hTl.symm hz0
        | cons c t => exact ⟨c, t, rfl⟩
      have hcl := UInt8.toNat_lt c
      (first | refine wX ?_ | exact wZ)
      rw [h81]
      cases e81 : d.letter == 81 with
      | true =>
        have hl81 : d.letter = 81 := by simpa using e81
        have hsg : sg d.letter = false := by rw [hl81]; rfl
        rw [hsg] at hwl
        (first | refine wX ?_ | exact wZ)
        refine brd_dec (fun h2 => ?_) (fun h2 => ?_)
        · have hwv : whl d L = .error 5 := by
            rw [hwl]
            show (if beN (L) < 9223372036854775808 then _ else _) = _
            rw [if_neg (by omega)]
          rw [hwv]
          (first | refine wX ?_ | exact wZ)
          rfl
        · have hwv : whl d L = .ok ((beN (L) : Nat) : Int) := by
            rw [hwl]
            show (if beN (L) < 9223372036854775808 then _ else _) = _
            rw [if_pos (by omega)]
            rfl
          rw [hwv]
          (first | refine wX ?_ | exact wZ)
          refine call1 (signed_r d.letter _) ?_
          rw [hsg]
          (first | refine wX ?_ | exact wZ)
          rfl
      | false =>
        (first | refine wX ?_ | exact wZ)
        refine call1 (signed_r d.letter _) ?_
        cases hsg : sg d.letter with
        | false =>
          have h4z : sz d.letter ≤ 4 := sz_small hz0 hsg (by simpa using e81)
          have hb32 : beN (L) < 4294967296 := Nat.lt_of_lt_of_le hbj (Nat.pow_le_pow_right (by decide) h4z)
          have hwv : whl d L = .ok ((beN (L) : Nat) : Int) := by
            rw [hwl, hsg]
            show (if beN (L) < 9223372036854775808 then _ else _) = _
            rw [if_pos (by omega)]
            rfl
          rw [hwv]
          (first | refine wX ?_ | exact wZ)
          rfl
        | true =>
          rw [hsg] at hwl
          (first | refine wX ?_ | exact wZ)
          refine Nd.mk ⟨rfl, by omega, by omega⟩ ?_
          (first | refine wX ?_ | exact wZ)
          refine LdN.one (.int .u8 (c.toNat : Int)) rfl (fun w hw => hw.1) (by
            show (u8s (L))[Int.toNat 0 * 1]? = _
            rw [hct]
            rfl) ?_
          (first | refine wX ?_ | exact wZ)
          rcases sz4 hz0 with hk | hk | hk | hk
          · skip
            -- L: the bytes; 1: how many; 256: 256^1; 128: its half; 1: 256^(1 - 1); 0: 1 - 1
            have htl : t.length = 0 := by
              have := congrArg List.length hct
              rw [hTl, hk, List.length_cons] at this
              omega
            rw [hk] at hbj hLl hTl
            have hb2 : beN (L) < 256 := hbj
            have hb3 : beN (L) = c.toNat * 1 + beN t := by rw [hct, beN_cons, htl]
            have hb4 : beN t < 1 := by
              have := beN_lt t
              rw [htl] at this
              exact this
            have hwv : whl d L = .ok (if beN (L) < 128 then ((beN (L) : Nat) : Int) else ((beN (L) : Nat) : Int) - 256) := by
              rw [hwl, hLl]
              first | (rw [if_pos rfl, if_pos rfl]; rfl) | (rw [if_pos rfl, if_neg (show ¬ false = true by decide)]; rfl)
            rw [hwv]
            clear hwl hwv
            refine brd_dec (fun h4 => ?_) (fun h4 => ?_)
            · (first | refine wX ?_ | exact wZ)
              rw [hTl]
              (first | refine wX ?_ | exact wZ)
              rw [if_neg (by omega)]
              have hp : IntKind.i64.wrap (1 * 2 ^ min (IntKind.i64.wrap (8 * ((1 : Nat) : Int))).toNat IntKind.i64.bits) = 256 := by decide +kernel
              rw [hp, wrap_i64 (x := ((beN (L) : Nat) : Int)) (by omega), wrap_i64 (by omega)]
              rfl
            · (first | refine wX ?_ | exact wZ)
              rw [if_pos (by omega)]
              rfl
          · skip
            -- L: the bytes; 2: how many; 65536: 256^2; 32768: its half; 256: 256^(2 - 1); 1: 2 - 1
            have htl : t.length = 1 := by
              have := congrArg List.length hct
              rw [hTl, hk, List.length_cons] at this
              omega
            rw [hk] at hbj hLl hTl
            have hb2 : beN (L) < 65536 := hbj
            have hb3 : beN (L) = c.toNat * 256 + beN t := by rw [hct, beN_cons, htl]
            have hb4 : beN t < 256 := by
              have := beN_lt t
              rw [htl] at this
              exact this
            have hwv : whl d L = .ok (if beN (L) < 32768 then ((beN (L) : Nat) : Int) else ((beN (L) : Nat) : Int) - 65536) := by
              rw [hwl, hLl]
              first | (rw [if_pos rfl, if_pos rfl]; rfl) | (rw [if_pos rfl, if_neg (show ¬ false = true by decide)]; rfl)
            rw [hwv]
            clear hwl hwv
            refine brd_dec (fun h4 => ?_) (fun h4 => ?_)
            · (first | refine wX ?_ | exact wZ)
              rw [hTl]
              (first | refine wX ?_ | exact wZ)
              rw [if_neg (by omega)]
              have hp : IntKind.i64.wrap (1 * 2 ^ min (IntKind.i64.wrap (8 * ((2 : Nat) : Int))).toNat IntKind.i64.bits) = 65536 := by decide +kernel
              rw [hp, wrap_i64 (x := ((beN (L) : Nat) : Int)) (by omega), wrap_i64 (by omega)]
              rfl
            · (first | refine wX ?_ | exact wZ)
              rw [if_pos (by omega)]
              rfl
          · skip
            -- L: the bytes; 4: how many; 4294967296: 256^4; 2147483648: its half; 16777216: 256^(4 - 1); 3: 4 - 1
            have htl : t.length = 3 := by
              have := congrArg List.length hct
              rw [hTl, hk, List.length_cons] at this
              omega
            rw [hk] at hbj hLl hTl
            have hb2 : beN (L) < 4294967296 := hbj
            have hb3 : beN (L) = c.toNat * 16777216 + beN t := by rw [hct, beN_cons, htl]
            have hb4 : beN t < 16777216 := by
              have := beN_lt t
              rw [htl] at this
              exact this
            have hwv : whl d L = .ok (if beN (L) < 2147483648 then ((beN (L) : Nat) : Int) else ((beN (L) : Nat) : Int) - 4294967296) := by
              rw [hwl, hLl]
              first | (rw [if_pos rfl, if_pos rfl]; rfl) | (rw [if_pos rfl, if_neg (show ¬ false = true by decide)]; rfl)
            rw [hwv]
            clear hwl hwv
            refine brd_dec (fun h4 => ?_) (fun h4 => ?_)
            · (first | refine wX ?_ | exact wZ)
              rw [hTl]
              (first | refine wX ?_ | exact wZ)
              rw [if_neg (by omega)]
              have hp : IntKind.i64.wrap (1 * 2 ^ min (IntKind.i64.wrap (8 * ((4 : Nat) : Int))).toNat IntKind.i64.bits) = 4294967296 := by decide +kernel
              rw [hp, wrap_i64 (x := ((beN (L) : Nat) : Int)) (by omega), wrap_i64 (by omega)]
              rfl
            · (first | refine wX ?_ | exact wZ)
              rw [if_pos (by omega)]
              rfl
          · rw [hk] at hTl hLl hbj
            have hb2 : beN (L) < 18446744073709551616 := hbj
            have hwv : whl d L = .ok (if beN (L) < 9223372036854775808 then ((beN (L) : Nat) : Int) else ((beN (L) : Nat) : Int) - 18446744073709551616) := by
              rw [hwl, hLl]
              first | (rw [if_pos rfl, if_pos rfl]; rfl) | (rw [if_pos rfl, if_neg (show ¬ false = true by decide)]; rfl)
            rw [hwv]
            clear hwl hwv
            have hfin : IntKind.i64.wrap ((beN (L) : Nat) : Int) = if beN (L) < 9223372036854775808 then ((beN (L) : Nat) : Int) else ((beN (L) : Nat) : Int) - 18446744073709551616 := by
              by_cases h : beN (L) < 9223372036854775808
              · rw [if_pos h, wrap_i64 (by omega)]
              · rw [if_neg h, wrap_eq, if_pos (by omega)]
                omega
            refine brd_dec (fun h4 => ?_) (fun h4 => ?_)
            · (first | refine wX ?_ | exact wZ)
              rw [hTl]
              (first | refine wX ?_ | exact wZ)
              rw [hfin]
              rfl
            · (first | refine wX ?_ | exact wZ)
              rw [hfin]
              rfl
  | false =>
    (first | refine wX ?_ | exact wZ)
    rw [bne, h110]
    cases e110 : d.letter == 110 with
    | true =>
      have hh : hi d = true := by unfold hi; rw [e110]; simp
      rw [hh] at hwl
      (first | refine wX ?_ | exact wZ)
      -- L: the bytes, greatest first; they lie at rb; hw.1: their entry's fact; own L lb lc: the entries of bytes; wkE_refl _, wkH_nil _: that they are; false: big
      have hTl : (L).length = sz d.letter := by first | exact hLl | (rw [List.length_reverse]; exact hLl)
      (first | refine wX ?_ | exact wZ)
      refine LoopN.intro Nat (fun j => j ≤ L.length) (fun j => mkS Tryz.f44.ntmps 0 [(2, .c (.lp 0 0)), (6, .c (.v (.slice (some ⟨lb, 0, none⟩) (L).length lc))), (7, .c (.v (.int .u64 ((beN ((L).take j) : Nat) : Int)))), (8, .c (.v (.int .i64 (j : Int))))])
        (fun _ => [.blk 66 [.v (.int .u8 (d.letter.toNat : Int)), .v (.bool false), .v (.int .i64 d.count)], own L lb lc]) (fun j => L.length - j) [] rfl
        (fun _ => rfl) (fun _ => rfl) (fun _ _ => okHB_eq rfl) ⟨0, Nat.zero_le _, ?_, ?_⟩ ?_
      · (repeat' (first | exact trivial | refine And.intro (by with_reducible rfl) ?_ | (with_reducible exact wkC_refl _) | (with_reducible exact wkCs_refl _) | refine And.intro ?_ ?_))
        all_goals rfl
      · exact ⟨by first | exact wkE_refl _ | (unfold dirV; rw [hbg]; exact wkE_refl _), wkE_refl _, wkH_nil _⟩
      intro j hj
      have hll : (L).length = L.length := by omega
      (first | refine wX ?_ | exact wZ)
      refine brd_dec (fun h1 => ?_) (fun h1 => ?_)
      · obtain ⟨c, hc⟩ : ∃ c, (L)[j]? = some c := ⟨_, List.getElem?_eq_getElem (by omega)⟩
        have hsn : (L).take (j + 1) = (L).take j ++ [c] := Pack.take_snoc hc
        have hbj : beN ((L).take j) < 72057594037927936 := by
          have h2 := beN_lt ((L).take j)
          rw [List.length_take, Nat.min_eq_left (by omega)] at h2
          exact Nat.lt_of_lt_of_le h2 (Nat.pow_le_pow_right (by decide) (show j ≤ 7 by omega))
        have hcl := UInt8.toNat_lt c
        (first | refine wX ?_ | exact wZ)
        refine Nd.mk ⟨rfl, by omega, by omega⟩ ?_
        (first | refine wX ?_ | exact wZ)
        refine LdN.one (.int .u8 (c.toNat : Int)) rfl (fun w hw => hw.1) (by
          show (u8s (L))[(j : Int).toNat * 1]? = _
          rw [Nat.mul_one, Int.toNat_natCast]
          exact u8s_at hc) ?_
        (first | refine wX ?_ | exact wZ)
        refine ⟨j + 1, by omega, by omega, ?_, by (repeat' (first | exact trivial | exact wkE_refl _ | refine And.intro ?_ ?_))⟩
        (repeat' (first | exact trivial | refine And.intro (by with_reducible rfl) ?_ | (with_reducible exact wkC_refl _) | (with_reducible exact wkCs_refl _) | refine And.intro ?_ ?_))
        all_goals first | rfl | exact av_int (by first | omega | (rw [wrap_i64 (by omega)]; omega)) | exact av_int (by rw [wrap_u64 (x := (c.toNat : Int)) (by omega), wrap_u64 (x := _ * 256) (by omega), wrap_u64 (by omega), hsn, beN_snoc]; omega)
      · rw [show (L).take j = L from List.take_of_length_le (by omega)]
        have hbj : beN (L) < 256 ^ sz d.letter := by
          have h2 := beN_lt (L)
          rw [hTl] at h2
          exact h2
        have hb64 : beN (L) < 18446744073709551616 := Nat.lt_of_lt_of_le hbj (Nat.pow_le_pow_right (by decide) h8)
        obtain ⟨c, t, hct⟩ : ∃ c t, L = c :: t := by
          cases hL0 : L with
          | nil => rw [hL0] at hTl; exact absurd hTl.symm hz0
          | cons c t => exact ⟨c, t, rfl⟩
        have hcl := UInt8.toNat_lt c
        (first | refine wX ?_ | exact wZ)
        rw [h81]
        cases e81 : d.letter == 81 with
        | true =>
          have hl81 : d.letter = 81 := by simpa using e81
          have hsg : sg d.letter = false := by rw [hl81]; rfl
          rw [hsg] at hwl
          (first | refine wX ?_ | exact wZ)
          refine brd_dec (fun h2 => ?_) (fun h2 => ?_)
          · have hwv : whl d L = .error 5 := by
              rw [hwl]
              show (if beN (L) < 9223372036854775808 then _ else _) = _
              rw [if_neg (by omega)]
            rw [hwv]
            (first | refine wX ?_ | exact wZ)
            rfl
          · have hwv : whl d L = .ok ((beN (L) : Nat) : Int) := by
              rw [hwl]
              show (if beN (L) < 9223372036854775808 then _ else _) = _
              rw [if_pos (by omega)]
              rfl
            rw [hwv]
            (first | refine wX ?_ | exact wZ)
            refine call1 (signed_r d.letter _) ?_
            rw [hsg]
            (first | refine wX ?_ | exact wZ)
            rfl
        | false =>
          (first | refine wX ?_ | exact wZ)
          refine call1 (signed_r d.letter _) ?_
          cases hsg : sg d.letter with
          | false =>
            have h4z : sz d.letter ≤ 4 := sz_small hz0 hsg (by simpa using e81)
            have hb32 : beN (L) < 4294967296 := Nat.lt_of_lt_of_le hbj (Nat.pow_le_pow_right (by decide) h4z)
            have hwv : whl d L = .ok ((beN (L) : Nat) : Int) := by
              rw [hwl, hsg]
              show (if beN (L) < 9223372036854775808 then _ else _) = _
              rw [if_pos (by omega)]
              rfl
            rw [hwv]
            (first | refine wX ?_ | exact wZ)
            rfl
          | true =>
            rw [hsg] at hwl
            (first | refine wX ?_ | exact wZ)
            refine Nd.mk ⟨rfl, by omega, by omega⟩ ?_
            (first | refine wX ?_ | exact wZ)
            refine LdN.one (.int .u8 (c.toNat : Int)) rfl (fun w hw => hw.1) (by
              show (u8s (L))[Int.toNat 0 * 1]? = _
              rw [hct]
              rfl) ?_
            (first | refine wX ?_ | exact wZ)
            rcases sz4 hz0 with hk | hk | hk | hk
            · skip
              -- L: the bytes; 1: how many; 256: 256^1; 128: its half; 1: 256^(1 - 1); 0: 1 - 1
              have htl : t.length = 0 := by
                have := congrArg List.length hct
                rw [hTl, hk, List.length_cons] at this
                omega
              rw [hk] at hbj hLl hTl
              have hb2 : beN (L) < 256 := hbj
              have hb3 : beN (L) = c.toNat * 1 + beN t := by rw [hct, beN_cons, htl]
              have hb4 : beN t < 1 := by
                have := beN_lt t
                rw [htl] at this
                exact this
              have hwv : whl d L = .ok (if beN (L) < 128 then ((beN (L) : Nat) : Int) else ((beN (L) : Nat) : Int) - 256) := by
                rw [hwl, hLl]
                first | (rw [if_pos rfl, if_pos rfl]; rfl) | (rw [if_pos rfl, if_neg (show ¬ false = true by decide)]; rfl)
              rw [hwv]
              clear hwl hwv
              refine brd_dec (fun h4 => ?_) (fun h4 => ?_)
              · (first | refine wX ?_ | exact wZ)
                rw [hTl]
                (first | refine wX ?_ | exact wZ)
                rw [if_neg (by omega)]
                have hp : IntKind.i64.wrap (1 * 2 ^ min (IntKind.i64.wrap (8 * ((1 : Nat) : Int))).toNat IntKind.i64.bits) = 256 := by decide +kernel
                rw [hp, wrap_i64 (x := ((beN (L) : Nat) : Int)) (by omega), wrap_i64 (by omega)]
                rfl
              · (first | refine wX ?_ | exact wZ)
                rw [if_pos (by omega)]
                rfl
            · skip
              -- L: the bytes; 2: how many; 65536: 256^2; 32768: its half; 256: 256^(2 - 1); 1: 2 - 1
              have htl : t.length = 1 := by
                have := congrArg List.length hct
                rw [hTl, hk, List.length_cons] at this
                omega
              rw [hk] at hbj hLl hTl
              have hb2 : beN (L) < 65536 := hbj
              have hb3 : beN (L) = c.toNat * 256 + beN t := by rw [hct, beN_cons, htl]
              have hb4 : beN t < 256 := by
                have := beN_lt t
                rw [htl] at this
                exact this
              have hwv : whl d L = .ok (if beN (L) < 32768 then ((beN (L) : Nat) : Int) else ((beN (L) : Nat) : Int) - 65536) := by
                rw [hwl, hLl]
                first | (rw [if_pos rfl, if_pos rfl]; rfl) | (rw [if_pos rfl, if_neg (show ¬ false = true by decide)]; rfl)
              rw [hwv]
              clear hwl hwv
              refine brd_dec (fun h4 => ?_) (fun h4 => ?_)
              · (first | refine wX ?_ | exact wZ)
                rw [hTl]
                (first | refine wX ?_ | exact wZ)
                rw [if_neg (by omega)]
                have hp : IntKind.i64.wrap (1 * 2 ^ min (IntKind.i64.wrap (8 * ((2 : Nat) : Int))).toNat IntKind.i64.bits) = 65536 := by decide +kernel
                rw [hp, wrap_i64 (x := ((beN (L) : Nat) : Int)) (by omega), wrap_i64 (by omega)]
                rfl
              · (first | refine wX ?_ | exact wZ)
                rw [if_pos (by omega)]
                rfl
            · skip
              -- L: the bytes; 4: how many; 4294967296: 256^4; 2147483648: its half; 16777216: 256^(4 - 1); 3: 4 - 1
              have htl : t.length = 3 := by
                have := congrArg List.length hct
                rw [hTl, hk, List.length_cons] at this
                omega
              rw [hk] at hbj hLl hTl
              have hb2 : beN (L) < 4294967296 := hbj
              have hb3 : beN (L) = c.toNat * 16777216 + beN t := by rw [hct, beN_cons, htl]
              have hb4 : beN t < 16777216 := by
                have := beN_lt t
                rw [htl] at this
                exact this
              have hwv : whl d L = .ok (if beN (L) < 2147483648 then ((beN (L) : Nat) : Int) else ((beN (L) : Nat) : Int) - 4294967296) := by
                rw [hwl, hLl]
                first | (rw [if_pos rfl, if_pos rfl]; rfl) | (rw [if_pos rfl, if_neg (show ¬ false = true by decide)]; rfl)
              rw [hwv]
              clear hwl hwv
              refine brd_dec (fun h4 => ?_) (fun h4 => ?_)
              · (first | refine wX ?_ | exact wZ)
                rw [hTl]
                (first | refine wX ?_ | exact wZ)
                rw [if_neg (by omega)]
                have hp : IntKind.i64.wrap (1 * 2 ^ min (IntKind.i64.wrap (8 * ((4 : Nat) : Int))).toNat IntKind.i64.bits) = 4294967296 := by decide +kernel
                rw [hp, wrap_i64 (x := ((beN (L) : Nat) : Int)) (by omega), wrap_i64 (by omega)]
                rfl
              · (first | refine wX ?_ | exact wZ)
                rw [if_pos (by omega)]
                rfl
            · rw [hk] at hTl hLl hbj
              have hb2 : beN (L) < 18446744073709551616 := hbj
              have hwv : whl d L = .ok (if beN (L) < 9223372036854775808 then ((beN (L) : Nat) : Int) else ((beN (L) : Nat) : Int) - 18446744073709551616) := by
                rw [hwl, hLl]
                first | (rw [if_pos rfl, if_pos rfl]; rfl) | (rw [if_pos rfl, if_neg (show ¬ false = true by decide)]; rfl)
              rw [hwv]
              clear hwl hwv
              have hfin : IntKind.i64.wrap ((beN (L) : Nat) : Int) = if beN (L) < 9223372036854775808 then ((beN (L) : Nat) : Int) else ((beN (L) : Nat) : Int) - 18446744073709551616 := by
                by_cases h : beN (L) < 9223372036854775808
                · rw [if_pos h, wrap_i64 (by omega)]
                · rw [if_neg h, wrap_eq, if_pos (by omega)]
                  omega
              refine brd_dec (fun h4 => ?_) (fun h4 => ?_)
              · (first | refine wX ?_ | exact wZ)
                rw [hTl]
                (first | refine wX ?_ | exact wZ)
                rw [hfin]
                rfl
              · (first | refine wX ?_ | exact wZ)
                rw [hfin]
                rfl
    | false =>
      (first | refine wX ?_ | exact wZ)
      rw [bne, h78]
      cases e78 : d.letter == 78 with
      | true =>
        have hh : hi d = true := by unfold hi; rw [e78]; simp
        rw [hh] at hwl
        (first | refine wX ?_ | exact wZ)
        -- L: the bytes, greatest first; they lie at rb; hw.1: their entry's fact; own L lb lc: the entries of bytes; wkE_refl _, wkH_nil _: that they are; false: big
        have hTl : (L).length = sz d.letter := by first | exact hLl | (rw [List.length_reverse]; exact hLl)
        (first | refine wX ?_ | exact wZ)
        refine LoopN.intro Nat (fun j => j ≤ L.length) (fun j => mkS Tryz.f44.ntmps 0 [(2, .c (.lp 0 0)), (6, .c (.v (.slice (some ⟨lb, 0, none⟩) (L).length lc))), (7, .c (.v (.int .u64 ((beN ((L).take j) : Nat) : Int)))), (8, .c (.v (.int .i64 (j : Int))))])
          (fun _ => [.blk 66 [.v (.int .u8 (d.letter.toNat : Int)), .v (.bool false), .v (.int .i64 d.count)], own L lb lc]) (fun j => L.length - j) [] rfl
          (fun _ => rfl) (fun _ => rfl) (fun _ _ => okHB_eq rfl) ⟨0, Nat.zero_le _, ?_, ?_⟩ ?_
        · (repeat' (first | exact trivial | refine And.intro (by with_reducible rfl) ?_ | (with_reducible exact wkC_refl _) | (with_reducible exact wkCs_refl _) | refine And.intro ?_ ?_))
          all_goals rfl
        · exact ⟨by first | exact wkE_refl _ | (unfold dirV; rw [hbg]; exact wkE_refl _), wkE_refl _, wkH_nil _⟩
        intro j hj
        have hll : (L).length = L.length := by omega
        (first | refine wX ?_ | exact wZ)
        refine brd_dec (fun h1 => ?_) (fun h1 => ?_)
        · obtain ⟨c, hc⟩ : ∃ c, (L)[j]? = some c := ⟨_, List.getElem?_eq_getElem (by omega)⟩
          have hsn : (L).take (j + 1) = (L).take j ++ [c] := Pack.take_snoc hc
          have hbj : beN ((L).take j) < 72057594037927936 := by
            have h2 := beN_lt ((L).take j)
            rw [List.length_take, Nat.min_eq_left (by omega)] at h2
            exact Nat.lt_of_lt_of_le h2 (Nat.pow_le_pow_right (by decide) (show j ≤ 7 by omega))
          have hcl := UInt8.toNat_lt c
          (first | refine wX ?_ | exact wZ)
          refine Nd.mk ⟨rfl, by omega, by omega⟩ ?_
          (first | refine wX ?_ | exact wZ)
          refine LdN.one (.int .u8 (c.toNat : Int)) rfl (fun w hw => hw.1) (by
            show (u8s (L))[(j : Int).toNat * 1]? = _
            rw [Nat.mul_one, Int.toNat_natCast]
            exact u8s_at hc) ?_
          (first | refine wX ?_ | exact wZ)
          refine ⟨j + 1, by omega, by omega, ?_, by (repeat' (first | exact trivial | exact wkE_refl _ | refine And.intro ?_ ?_))⟩
          (repeat' (first | exact trivial | refine And.intro (by with_reducible rfl) ?_ | (with_reducible exact wkC_refl _) | (with_reducible exact wkCs_refl _) | refine And.intro ?_ ?_))
          all_goals first | rfl | exact av_int (by first | omega | (rw [wrap_i64 (by omega)]; omega)) | exact av_int (by rw [wrap_u64 (x := (c.toNat : Int)) (by omega), wrap_u64 (x := _ * 256) (by omega), wrap_u64 (by omega), hsn, beN_snoc]; omega)
        · rw [show (L).take j = L from List.take_of_length_le (by omega)]
          have hbj : beN (L) < 256 ^ sz d.letter := by
            have h2 := beN_lt (L)
            rw [hTl] at h2
            exact h2
          have hb64 : beN (L) < 18446744073709551616 := Nat.lt_of_lt_of_le hbj (Nat.pow_le_pow_right (by decide) h8)
          obtain ⟨c, t, hct⟩ : ∃ c t, L = c :: t := by
            cases hL0 : L with
            | nil => rw [hL0] at hTl; exact absurd hTl.symm hz0
            | cons c t => exact ⟨c, t, rfl⟩
          have hcl := UInt8.toNat_lt c
          (first | refine wX ?_ | exact wZ)
          rw [h81]
          cases e81 : d.letter == 81 with
          | true =>
            have hl81 : d.letter = 81 := by simpa using e81
            have hsg : sg d.letter = false := by rw [hl81]; rfl
            rw [hsg] at hwl
            (first | refine wX ?_ | exact wZ)
            refine brd_dec (fun h2 => ?_) (fun h2 => ?_)
            · have hwv : whl d L = .error 5 := by
                rw [hwl]
                show (if beN (L) < 9223372036854775808 then _ else _) = _
                rw [if_neg (by omega)]
              rw [hwv]
              (first | refine wX ?_ | exact wZ)
              rfl
            · have hwv : whl d L = .ok ((beN (L) : Nat) : Int) := by
                rw [hwl]
                show (if beN (L) < 9223372036854775808 then _ else _) = _
                rw [if_pos (by omega)]
                rfl
              rw [hwv]
              (first | refine wX ?_ | exact wZ)
              refine call1 (signed_r d.letter _) ?_
              rw [hsg]
              (first | refine wX ?_ | exact wZ)
              rfl
          | false =>
            (first | refine wX ?_ | exact wZ)
            refine call1 (signed_r d.letter _) ?_
            cases hsg : sg d.letter with
            | false =>
              have h4z : sz d.letter ≤ 4 := sz_small hz0 hsg (by simpa using e81)
              have hb32 : beN (L) < 4294967296 := Nat.lt_of_lt_of_le hbj (Nat.pow_le_pow_right (by decide) h4z)
              have hwv : whl d L = .ok ((beN (L) : Nat) : Int) := by
                rw [hwl, hsg]
                show (if beN (L) < 9223372036854775808 then _ else _) = _
                rw [if_pos (by omega)]
                rfl
              rw [hwv]
              (first | refine wX ?_ | exact wZ)
              rfl
            | true =>
              rw [hsg] at hwl
              (first | refine wX ?_ | exact wZ)
              refine Nd.mk ⟨rfl, by omega, by omega⟩ ?_
              (first | refine wX ?_ | exact wZ)
              refine LdN.one (.int .u8 (c.toNat : Int)) rfl (fun w hw => hw.1) (by
                show (u8s (L))[Int.toNat 0 * 1]? = _
                rw [hct]
                rfl) ?_
              (first | refine wX ?_ | exact wZ)
              rcases sz4 hz0 with hk | hk | hk | hk
              · skip
                -- L: the bytes; 1: how many; 256: 256^1; 128: its half; 1: 256^(1 - 1); 0: 1 - 1
                have htl : t.length = 0 := by
                  have := congrArg List.length hct
                  rw [hTl, hk, List.length_cons] at this
                  omega
                rw [hk] at hbj hLl hTl
                have hb2 : beN (L) < 256 := hbj
                have hb3 : beN (L) = c.toNat * 1 + beN t := by rw [hct, beN_cons, htl]
                have hb4 : beN t < 1 := by
                  have := beN_lt t
                  rw [htl] at this
                  exact this
                have hwv : whl d L = .ok (if beN (L) < 128 then ((beN (L) : Nat) : Int) else ((beN (L) : Nat) : Int) - 256) := by
                  rw [hwl, hLl]
                  first | (rw [if_pos rfl, if_pos rfl]; rfl) | (rw [if_pos rfl, if_neg (show ¬ false = true by decide)]; rfl)
                rw [hwv]
                clear hwl hwv
                refine brd_dec (fun h4 => ?_) (fun h4 => ?_)
                · (first | refine wX ?_ | exact wZ)
                  rw [hTl]
                  (first | refine wX ?_ | exact wZ)
                  rw [if_neg (by omega)]
                  have hp : IntKind.i64.wrap (1 * 2 ^ min (IntKind.i64.wrap (8 * ((1 : Nat) : Int))).toNat IntKind.i64.bits) = 256 := by decide +kernel
                  rw [hp, wrap_i64 (x := ((beN (L) : Nat) : Int)) (by omega), wrap_i64 (by omega)]
                  rfl
                · (first | refine wX ?_ | exact wZ)
                  rw [if_pos (by omega)]
                  rfl
              · skip
                -- L: the bytes; 2: how many; 65536: 256^2; 32768: its half; 256: 256^(2 - 1); 1: 2 - 1
                have htl : t.length = 1 := by
                  have := congrArg List.length hct
                  rw [hTl, hk, List.length_cons] at this
                  omega
                rw [hk] at hbj hLl hTl
                have hb2 : beN (L) < 65536 := hbj
                have hb3 : beN (L) = c.toNat * 256 + beN t := by rw [hct, beN_cons, htl]
                have hb4 : beN t < 256 := by
                  have := beN_lt t
                  rw [htl] at this
                  exact this
                have hwv : whl d L = .ok (if beN (L) < 32768 then ((beN (L) : Nat) : Int) else ((beN (L) : Nat) : Int) - 65536) := by
                  rw [hwl, hLl]
                  first | (rw [if_pos rfl, if_pos rfl]; rfl) | (rw [if_pos rfl, if_neg (show ¬ false = true by decide)]; rfl)
                rw [hwv]
                clear hwl hwv
                refine brd_dec (fun h4 => ?_) (fun h4 => ?_)
                · (first | refine wX ?_ | exact wZ)
                  rw [hTl]
                  (first | refine wX ?_ | exact wZ)
                  rw [if_neg (by omega)]
                  have hp : IntKind.i64.wrap (1 * 2 ^ min (IntKind.i64.wrap (8 * ((2 : Nat) : Int))).toNat IntKind.i64.bits) = 65536 := by decide +kernel
                  rw [hp, wrap_i64 (x := ((beN (L) : Nat) : Int)) (by omega), wrap_i64 (by omega)]
                  rfl
                · (first | refine wX ?_ | exact wZ)
                  rw [if_pos (by omega)]
                  rfl
              · skip
                -- L: the bytes; 4: how many; 4294967296: 256^4; 2147483648: its half; 16777216: 256^(4 - 1); 3: 4 - 1
                have htl : t.length = 3 := by
                  have := congrArg List.length hct
                  rw [hTl, hk, List.length_cons] at this
                  omega
                rw [hk] at hbj hLl hTl
                have hb2 : beN (L) < 4294967296 := hbj
                have hb3 : beN (L) = c.toNat * 16777216 + beN t := by rw [hct, beN_cons, htl]
                have hb4 : beN t < 16777216 := by
                  have := beN_lt t
                  rw [htl] at this
                  exact this
                have hwv : whl d L = .ok (if beN (L) < 2147483648 then ((beN (L) : Nat) : Int) else ((beN (L) : Nat) : Int) - 4294967296) := by
                  rw [hwl, hLl]
                  first | (rw [if_pos rfl, if_pos rfl]; rfl) | (rw [if_pos rfl, if_neg (show ¬ false = true by decide)]; rfl)
                rw [hwv]
                clear hwl hwv
                refine brd_dec (fun h4 => ?_) (fun h4 => ?_)
                · (first | refine wX ?_ | exact wZ)
                  rw [hTl]
                  (first | refine wX ?_ | exact wZ)
                  rw [if_neg (by omega)]
                  have hp : IntKind.i64.wrap (1 * 2 ^ min (IntKind.i64.wrap (8 * ((4 : Nat) : Int))).toNat IntKind.i64.bits) = 4294967296 := by decide +kernel
                  rw [hp, wrap_i64 (x := ((beN (L) : Nat) : Int)) (by omega), wrap_i64 (by omega)]
                  rfl
                · (first | refine wX ?_ | exact wZ)
                  rw [if_pos (by omega)]
                  rfl
              · rw [hk] at hTl hLl hbj
                have hb2 : beN (L) < 18446744073709551616 := hbj
                have hwv : whl d L = .ok (if beN (L) < 9223372036854775808 then ((beN (L) : Nat) : Int) else ((beN (L) : Nat) : Int) - 18446744073709551616) := by
                  rw [hwl, hLl]
                  first | (rw [if_pos rfl, if_pos rfl]; rfl) | (rw [if_pos rfl, if_neg (show ¬ false = true by decide)]; rfl)
                rw [hwv]
                clear hwl hwv
                have hfin : IntKind.i64.wrap ((beN (L) : Nat) : Int) = if beN (L) < 9223372036854775808 then ((beN (L) : Nat) : Int) else ((beN (L) : Nat) : Int) - 18446744073709551616 := by
                  by_cases h : beN (L) < 9223372036854775808
                  · rw [if_pos h, wrap_i64 (by omega)]
                  · rw [if_neg h, wrap_eq, if_pos (by omega)]
                    omega
                refine brd_dec (fun h4 => ?_) (fun h4 => ?_)
                · (first | refine wX ?_ | exact wZ)
                  rw [hTl]
                  (first | refine wX ?_ | exact wZ)
                  rw [hfin]
                  rfl
                · (first | refine wX ?_ | exact wZ)
                  rw [hfin]
                  rfl
      | false =>
        have hh : hi d = false := by unfold hi; rw [hbg, e110, e78]; rfl
        rw [hh] at hwl
        (first | refine wX ?_ | exact wZ)
        refine callG (turned_r L (some lb) lc (fun h => by cases h) (by omega)) [1] rfl ⟨rfl, trivial⟩ rfl ?_
        rintro ⟨ob2, cap2⟩ ⟨hob2, hcap2⟩
        obtain ⟨g, rfl⟩ : ∃ g, ob2 = some g := by
          cases ob2 with
          | none =>
            have h9 := (hob2 rfl).1
            rw [List.reverse_eq_nil_iff] at h9
            rw [h9] at hLl
            exact absurd hLl.symm hz0
          | some g => exact ⟨g, rfl⟩
        -- L.reverse: the bytes, greatest first; they lie at rb; hw.2.1: their entry's fact; own L lb lc, own L.reverse g cap2: the entries of bytes; wkE_refl _, wkE_refl _, wkH_nil _: that they are; false: big
        have hTl : (L.reverse).length = sz d.letter := by first | exact hLl | (rw [List.length_reverse]; exact hLl)
        (first | refine wX ?_ | exact wZ)
        refine LoopN.intro Nat (fun j => j ≤ L.length) (fun j => mkS Tryz.f44.ntmps 0 [(2, .c (.lp 0 0)), (6, .c (.v (.slice (some ⟨g, 0, none⟩) (L.reverse).length cap2))), (7, .c (.v (.int .u64 ((beN ((L.reverse).take j) : Nat) : Int)))), (8, .c (.v (.int .i64 (j : Int))))])
          (fun _ => [.blk 66 [.v (.int .u8 (d.letter.toNat : Int)), .v (.bool false), .v (.int .i64 d.count)], own L lb lc, own L.reverse g cap2]) (fun j => L.length - j) [] rfl
          (fun _ => rfl) (fun _ => rfl) (fun _ _ => okHB_eq rfl) ⟨0, Nat.zero_le _, ?_, ?_⟩ ?_
        · (repeat' (first | exact trivial | refine And.intro (by with_reducible rfl) ?_ | (with_reducible exact wkC_refl _) | (with_reducible exact wkCs_refl _) | refine And.intro ?_ ?_))
          all_goals rfl
        · exact ⟨by first | exact wkE_refl _ | (unfold dirV; rw [hbg]; exact wkE_refl _), wkE_refl _, wkE_refl _, wkH_nil _⟩
        intro j hj
        have hll : (L.reverse).length = L.length := by omega
        (first | refine wX ?_ | exact wZ)
        refine brd_dec (fun h1 => ?_) (fun h1 => ?_)
        · obtain ⟨c, hc⟩ : ∃ c, (L.reverse)[j]? = some c := ⟨_, List.getElem?_eq_getElem (by omega)⟩
          have hsn : (L.reverse).take (j + 1) = (L.reverse).take j ++ [c] := Pack.take_snoc hc
          have hbj : beN ((L.reverse).take j) < 72057594037927936 := by
            have h2 := beN_lt ((L.reverse).take j)
            rw [List.length_take, Nat.min_eq_left (by omega)] at h2
            exact Nat.lt_of_lt_of_le h2 (Nat.pow_le_pow_right (by decide) (show j ≤ 7 by omega))
          have hcl := UInt8.toNat_lt c
          (first | refine wX ?_ | exact wZ)
          refine Nd.mk ⟨rfl, by omega, by omega⟩ ?_
          (first | refine wX ?_ | exact wZ)
          refine LdN.one (.int .u8 (c.toNat : Int)) rfl (fun w hw => hw.2.1) (by
            show (u8s (L.reverse))[(j : Int).toNat * 1]? = _
            rw [Nat.mul_one, Int.toNat_natCast]
            exact u8s_at hc) ?_
          (first | refine wX ?_ | exact wZ)
          refine ⟨j + 1, by omega, by omega, ?_, by (repeat' (first | exact trivial | exact wkE_refl _ | refine And.intro ?_ ?_))⟩
          (repeat' (first | exact trivial | refine And.intro (by with_reducible rfl) ?_ | (with_reducible exact wkC_refl _) | (with_reducible exact wkCs_refl _) | refine And.intro ?_ ?_))
          all_goals first | rfl | exact av_int (by first | omega | (rw [wrap_i64 (by omega)]; omega)) | exact av_int (by rw [wrap_u64 (x := (c.toNat : Int)) (by omega), wrap_u64 (x := _ * 256) (by omega), wrap_u64 (by omega), hsn, beN_snoc]; omega)
        · rw [show (L.reverse).take j = L.reverse from List.take_of_length_le (by omega)]
          have hbj : beN (L.reverse) < 256 ^ sz d.letter := by
            have h2 := beN_lt (L.reverse)
            rw [hTl] at h2
            exact h2
          have hb64 : beN (L.reverse) < 18446744073709551616 := Nat.lt_of_lt_of_le hbj (Nat.pow_le_pow_right (by decide) h8)
          obtain ⟨c, t, hct⟩ : ∃ c t, L.reverse = c :: t := by
            cases hL0 : L.reverse with
            | nil => rw [hL0] at hTl; exact absurd hTl.symm hz0
            | cons c t => exact ⟨c, t, rfl⟩
          have hcl := UInt8.toNat_lt c
          (first | refine wX ?_ | exact wZ)
          rw [h81]
          cases e81 : d.letter == 81 with
          | true =>
            have hl81 : d.letter = 81 := by simpa using e81
            have hsg : sg d.letter = false := by rw [hl81]; rfl
            rw [hsg] at hwl
            (first | refine wX ?_ | exact wZ)
            refine brd_dec (fun h2 => ?_) (fun h2 => ?_)
            · have hwv : whl d L = .error 5 := by
                rw [hwl]
                show (if beN (L.reverse) < 9223372036854775808 then _ else _) = _
                rw [if_neg (by omega)]
              rw [hwv]
              (first | refine wX ?_ | exact wZ)
              rfl
            · have hwv : whl d L = .ok ((beN (L.reverse) : Nat) : Int) := by
                rw [hwl]
                show (if beN (L.reverse) < 9223372036854775808 then _ else _) = _
                rw [if_pos (by omega)]
                rfl
              rw [hwv]
              (first | refine wX ?_ | exact wZ)
              refine call1 (signed_r d.letter _) ?_
              rw [hsg]
              (first | refine wX ?_ | exact wZ)
              rfl
          | false =>
            (first | refine wX ?_ | exact wZ)
            refine call1 (signed_r d.letter _) ?_
            cases hsg : sg d.letter with
            | false =>
              have h4z : sz d.letter ≤ 4 := sz_small hz0 hsg (by simpa using e81)
              have hb32 : beN (L.reverse) < 4294967296 := Nat.lt_of_lt_of_le hbj (Nat.pow_le_pow_right (by decide) h4z)
              have hwv : whl d L = .ok ((beN (L.reverse) : Nat) : Int) := by
                rw [hwl, hsg]
                show (if beN (L.reverse) < 9223372036854775808 then _ else _) = _
                rw [if_pos (by omega)]
                rfl
              rw [hwv]
              (first | refine wX ?_ | exact wZ)
              rfl
            | true =>
              rw [hsg] at hwl
              (first | refine wX ?_ | exact wZ)
              refine Nd.mk ⟨rfl, by omega, by omega⟩ ?_
              (first | refine wX ?_ | exact wZ)
              refine LdN.one (.int .u8 (c.toNat : Int)) rfl (fun w hw => hw.2.1) (by
                show (u8s (L.reverse))[Int.toNat 0 * 1]? = _
                rw [hct]
                rfl) ?_
              (first | refine wX ?_ | exact wZ)
              rcases sz4 hz0 with hk | hk | hk | hk
              · skip
                -- L.reverse: the bytes; 1: how many; 256: 256^1; 128: its half; 1: 256^(1 - 1); 0: 1 - 1
                have htl : t.length = 0 := by
                  have := congrArg List.length hct
                  rw [hTl, hk, List.length_cons] at this
                  omega
                rw [hk] at hbj hLl hTl
                have hb2 : beN (L.reverse) < 256 := hbj
                have hb3 : beN (L.reverse) = c.toNat * 1 + beN t := by rw [hct, beN_cons, htl]
                have hb4 : beN t < 1 := by
                  have := beN_lt t
                  rw [htl] at this
                  exact this
                have hwv : whl d L = .ok (if beN (L.reverse) < 128 then ((beN (L.reverse) : Nat) : Int) else ((beN (L.reverse) : Nat) : Int) - 256) := by
                  rw [hwl, hLl]
                  first | (rw [if_pos rfl, if_pos rfl]; rfl) | (rw [if_pos rfl, if_neg (show ¬ false = true by decide)]; rfl)
                rw [hwv]
                clear hwl hwv
                refine brd_dec (fun h4 => ?_) (fun h4 => ?_)
                · (first | refine wX ?_ | exact wZ)
                  rw [hTl]
                  (first | refine wX ?_ | exact wZ)
                  rw [if_neg (by omega)]
                  have hp : IntKind.i64.wrap (1 * 2 ^ min (IntKind.i64.wrap (8 * ((1 : Nat) : Int))).toNat IntKind.i64.bits) = 256 := by decide +kernel
                  rw [hp, wrap_i64 (x := ((beN (L.reverse) : Nat) : Int)) (by omega), wrap_i64 (by omega)]
                  rfl
                · (first | refine wX ?_ | exact wZ)
                  rw [if_pos (by omega)]
                  rfl
              · skip
                -- L.reverse: the bytes; 2: how many; 65536: 256^2; 32768: its half; 256: 256^(2 - 1); 1: 2 - 1
                have htl : t.length = 1 := by
                  have := congrArg List.length hct
                  rw [hTl, hk, List.length_cons] at this
                  omega
                rw [hk] at hbj hLl hTl
                have hb2 : beN (L.reverse) < 65536 := hbj
                have hb3 : beN (L.reverse) = c.toNat * 256 + beN t := by rw [hct, beN_cons, htl]
                have hb4 : beN t < 256 := by
                  have := beN_lt t
                  rw [htl] at this
                  exact this
                have hwv : whl d L = .ok (if beN (L.reverse) < 32768 then ((beN (L.reverse) : Nat) : Int) else ((beN (L.reverse) : Nat) : Int) - 65536) := by
                  rw [hwl, hLl]
                  first | (rw [if_pos rfl, if_pos rfl]; rfl) | (rw [if_pos rfl, if_neg (show ¬ false = true by decide)]; rfl)
                rw [hwv]
                clear hwl hwv
                refine brd_dec (fun h4 => ?_) (fun h4 => ?_)
                · (first | refine wX ?_ | exact wZ)
                  rw [hTl]
                  (first | refine wX ?_ | exact wZ)
                  rw [if_neg (by omega)]
                  have hp : IntKind.i64.wrap (1 * 2 ^ min (IntKind.i64.wrap (8 * ((2 : Nat) : Int))).toNat IntKind.i64.bits) = 65536 := by decide +kernel
                  rw [hp, wrap_i64 (x := ((beN (L.reverse) : Nat) : Int)) (by omega), wrap_i64 (by omega)]
                  rfl
                · (first | refine wX ?_ | exact wZ)
                  rw [if_pos (by omega)]
                  rfl
              · skip
                -- L.reverse: the bytes; 4: how many; 4294967296: 256^4; 2147483648: its half; 16777216: 256^(4 - 1); 3: 4 - 1
                have htl : t.length = 3 := by
                  have := congrArg List.length hct
                  rw [hTl, hk, List.length_cons] at this
                  omega
                rw [hk] at hbj hLl hTl
                have hb2 : beN (L.reverse) < 4294967296 := hbj
                have hb3 : beN (L.reverse) = c.toNat * 16777216 + beN t := by rw [hct, beN_cons, htl]
                have hb4 : beN t < 16777216 := by
                  have := beN_lt t
                  rw [htl] at this
                  exact this
                have hwv : whl d L = .ok (if beN (L.reverse) < 2147483648 then ((beN (L.reverse) : Nat) : Int) else ((beN (L.reverse) : Nat) : Int) - 4294967296) := by
                  rw [hwl, hLl]
                  first | (rw [if_pos rfl, if_pos rfl]; rfl) | (rw [if_pos rfl, if_neg (show ¬ false = true by decide)]; rfl)
                rw [hwv]
                clear hwl hwv
                refine brd_dec (fun h4 => ?_) (fun h4 => ?_)
                · (first | refine wX ?_ | exact wZ)
                  rw [hTl]
                  (first | refine wX ?_ | exact wZ)
                  rw [if_neg (by omega)]
                  have hp : IntKind.i64.wrap (1 * 2 ^ min (IntKind.i64.wrap (8 * ((4 : Nat) : Int))).toNat IntKind.i64.bits) = 4294967296 := by decide +kernel
                  rw [hp, wrap_i64 (x := ((beN (L.reverse) : Nat) : Int)) (by omega), wrap_i64 (by omega)]
                  rfl
                · (first | refine wX ?_ | exact wZ)
                  rw [if_pos (by omega)]
                  rfl
              · rw [hk] at hTl hLl hbj
                have hb2 : beN (L.reverse) < 18446744073709551616 := hbj
                have hwv : whl d L = .ok (if beN (L.reverse) < 9223372036854775808 then ((beN (L.reverse) : Nat) : Int) else ((beN (L.reverse) : Nat) : Int) - 18446744073709551616) := by
                  rw [hwl, hLl]
                  first | (rw [if_pos rfl, if_pos rfl]; rfl) | (rw [if_pos rfl, if_neg (show ¬ false = true by decide)]; rfl)
                rw [hwv]
                clear hwl hwv
                have hfin : IntKind.i64.wrap ((beN (L.reverse) : Nat) : Int) = if beN (L.reverse) < 9223372036854775808 then ((beN (L.reverse) : Nat) : Int) else ((beN (L.reverse) : Nat) : Int) - 18446744073709551616 := by
                  by_cases h : beN (L.reverse) < 9223372036854775808
                  · rw [if_pos h, wrap_i64 (by omega)]
                  · rw [if_neg h, wrap_eq, if_pos (by omega)]
                    omega
                refine brd_dec (fun h4 => ?_) (fun h4 => ?_)
                · (first | refine wX ?_ | exact wZ)
                  rw [hTl]
                  (first | refine wX ?_ | exact wZ)
                  rw [hfin]
                  rfl
                · (first | refine wX ?_ | exact wZ)
                  rw [hfin]
                  rfl
end Go.Proofs.YtjkchonpnocffaaGreatDoor

/-
  Contracts: a number, a text is read (document).
-/
namespace Go.Proofs.YtjkchonpnocffaaGreatDoor
open Go.AX Go.RowKit Go.Pack
set_option maxRecDepth 20000

/-- What one gives: the number, how many bytes; or an error. -/
def OneR (r : Except Int (Int × Nat)) (v : Value) : Prop := match r with
  | .ok (n, k) => v = .tuple #[.int .i64 n, .int .i64 (k : Int), .int .i64 0]
  | .error e => ∃ x y, v = .tuple #[.int .i64 x, .int .i64 y, .int .i64 e]
theorem one_r (d : Dir) (s : List UInt8) (hz : d.letter = 119 ∨ d.letter = 85 ∨ sz d.letter ≠ 0) (hs : s.length ≤ 1000000) : ∀ H, SpecH Tryz.prog 21 (pvs [dirV d, .string (bs s)]) H (RetR (OneR (rdNum d s)) H) := by
  refine pureR hm Tryz.func21 (by kernel_rfl) rfl rfl ?_
  have h8 := sz_le8 d.letter
  have hzs := bs_size s
  have h85 : ((d.letter.toNat : Int) == 85) = (d.letter == 85) := u8_eq (n := 85) (by decide)
  (first | refine wX ?_ | exact wZ)
  refine call1 (size_r d.letter _) ?_
  (first | refine wX ?_ | exact wZ)
  by_cases hz0 : sz d.letter = 0
  · have hl : d.letter = 119 ∨ d.letter = 85 := by
      rcases hz with h | h | h
      · exact .inl h
      · exact .inr h
      · exact absurd hz0 h
    rw [hz0]
    (first | refine wX ?_ | exact wZ)
    rw [show (bs s).data.toList = s from bs_list s]
    cases s with
    | nil =>
      have hr : rdNum d [] = .error 14 := by
        rcases hl with h | h <;> (unfold rdNum; rw [h]; rfl)
      rw [hr]
      (first | refine wX ?_ | exact wZ)
      exact ⟨_, rfl, _, _, rfl⟩
    | cons c r =>
      (first | refine wX ?_ | exact wZ)
      rw [h85]
      cases e85 : d.letter == 85 with
      | true =>
        have hr : rdNum d (c :: r) = match runeD (c :: r) with | some (n, k) => .ok ((n : Int), k) | none => .error 1 := by
          unfold rdNum
          rw [if_neg (by rw [show d.letter = 85 by simpa using e85]; decide), if_pos e85]
          rfl
        have ho := oneT_ok (c :: r) (by simp)
        rw [hr]
        (first | refine wX ?_ | exact wZ)
        refine call1 (One_r c r hs _) ?_
        cases hrn : runeD (c :: r) with
        | none =>
          rw [hrn] at ho
          have ho2 : (oneT (c :: r)).2 = -1 := ho
          rw [ho2]
          (first | refine wX ?_ | exact wZ)
          exact ⟨_, rfl, _, _, rfl⟩
        | some x =>
          obtain ⟨n, k⟩ := x
          rw [hrn] at ho
          have ho2 : oneT (c :: r) = (k, (n : Int)) := ho
          rw [ho2]
          (first | refine wX ?_ | exact wZ)
          exact ⟨_, rfl, rfl⟩
      | false =>
        have e119 : d.letter = 119 := by
          rcases hl with h | h
          · exact h
          · rw [h] at e85; exact absurd e85 (by decide)
        have hr : rdNum d (c :: r) = grp 9 0 0 (c :: r) := by unfold rdNum; rw [if_pos (by rw [e119]; rfl)]
        rw [hr]
        have hb0 : byteAt (bs (c :: r)) (Int.toNat 0) = (c.toNat : Int) := byteAt_get rfl
        have h128 : ((c.toNat : Int) == 128) = (c == 128) := u8_eq (n := 128) (by decide)
        have hpos : (0 : Int) < ((bs (c :: r)).size : Int) := by rw [hzs]; simp
        (first | refine wX ?_ | exact wZ)
        try refine Nd.mk ⟨by omega, by omega⟩ ?_
        try (first | refine wX ?_ | exact wZ)
        rw [hb0, h128]
        cases hc0 : c == 128 with
        | true =>
          have hg : grp 9 0 0 (c :: r) = .error 5 := by rw [grp_cons, if_pos ⟨rfl, by simpa using hc0⟩]
          rw [hg]
          (first | refine wX ?_ | exact wZ)
          exact ⟨_, rfl, _, _, rfl⟩
        | false =>
          (first | refine wX ?_ | exact wZ)
          refine LoopN.intro (Nat × Nat) (fun ⟨i, x⟩ => i ≤ 9 ∧ x < 128 ^ i ∧ i ≤ (c :: r).length ∧ grp (9 - i) x i ((c :: r).drop i) = grp 9 0 0 (c :: r))
            (fun ⟨i, x⟩ => mkS Tryz.f21.ntmps 0 [(1, .c (.v (.string (bs (c :: r))))), (12, .c (.v (.int .i64 (x : Int)))), (13, .c (.v (.int .i64 (i : Int))))])
            (fun _ => [.blk 66 [.v (.int .u8 (d.letter.toNat : Int)), .v (.bool d.big), .v (.int .i64 d.count)]]) (fun ⟨i, _⟩ => 10 - i) [] rfl
            (fun _ => rfl) (fun _ => rfl) (fun _ _ => okHB_eq rfl) ⟨(0, 0), ⟨Nat.zero_le _, by decide, Nat.zero_le _, rfl⟩, ?_, ?_⟩ ?_
          · (repeat' (first | exact trivial | refine And.intro (by with_reducible rfl) ?_ | (with_reducible exact wkC_refl _) | (with_reducible exact wkCs_refl _) | refine And.intro ?_ ?_))
            all_goals rfl
          · exact ⟨wkE_refl _, wkH_nil _⟩
          rintro ⟨i, x⟩ ⟨hi, hx, hil, hg⟩
          (first | refine wX ?_ | exact wZ)
          rw [hzs]
          refine brd_dec (fun h1 => ?_) (fun h1 => ?_)
          · obtain ⟨b, hb⟩ : ∃ b, (c :: r)[i]? = some b := ⟨_, List.getElem?_eq_getElem (by omega)⟩
            have hbl := UInt8.toNat_lt b
            have hbc : byteAt (bs (c :: r)) (Int.toNat (i : Int)) = (b.toNat : Int) := by rw [Int.toNat_natCast]; exact byteAt_get hb
            have hdr : (c :: r).drop i = b :: (c :: r).drop (i + 1) := by
              rw [List.drop_eq_getElem_cons (by omega), (List.getElem?_eq_some_iff.1 hb).2]
            have hn128 : ¬ (i = 0 ∧ b = 128) := fun ⟨h2, h3⟩ => by
              subst h2
              have : c = b := Option.some.inj hb
              rw [this, h3] at hc0
              exact absurd hc0 (by decide)
            rw [hdr] at hg
            (first | refine wX ?_ | exact wZ)
            refine brd_eq (fun h9 => ?_) (fun h9 => ?_)
            · rw [show 9 - i = 0 by omega] at hg
              rw [← hg]
              (first | refine wX ?_ | exact wZ)
              exact ⟨_, rfl, _, _, rfl⟩
            · obtain ⟨f, hf⟩ : ∃ f, 9 - i = f + 1 := ⟨8 - i, by omega⟩
              have h56 : x < 72057594037927936 := Nat.lt_of_lt_of_le hx (Nat.pow_le_pow_right (by decide) (show i ≤ 8 by omega))
              rw [hf, grp_cons, if_neg hn128] at hg
              have hm : Int.tmod (b.toNat : Int) 128 = ((b.toNat % 128 : Nat) : Int) := (Int.ofNat_tmod b.toNat 128).symm
              have hV : IntKind.i64.wrap (IntKind.i64.wrap ((x : Int) * 128) + Int.tmod (IntKind.i64.wrap (b.toNat : Int)) 128) = ((x * 128 + b.toNat % 128 : Nat) : Int) := by
                rw [wrap_i64 (x := (b.toNat : Int)) (by omega), hm, wrap_i64 (x := (x : Int) * 128) (by omega), wrap_i64 (by omega)]
                omega
              (first | refine wX ?_ | exact wZ)
              try rw [hbc]
              rw [hV]
              (first | refine wX ?_ | exact wZ)
              try rw [hbc]
              refine brd_dec (fun h2 => ?_) (fun h2 => ?_)
              · have hc2 : b < 128 := UInt8.lt_iff_toNat_lt.2 (by show b.toNat < 128; omega)
                rw [if_pos hc2] at hg
                rw [← hg]
                (first | refine wX ?_ | exact wZ)
                exact ⟨_, rfl, rfl⟩
              · have hc2 : ¬ b < 128 := fun h => h2 (by have h3 : b.toNat < 128 := UInt8.lt_iff_toNat_lt.1 h; omega)
                rw [if_neg hc2] at hg
                (first | refine wX ?_ | exact wZ)
                refine ⟨(i + 1, x * 128 + b.toNat % 128), ⟨by omega, by rw [Nat.pow_succ]; omega, by omega, by rw [show 9 - (i + 1) = f by omega]; exact hg⟩, by show 10 - (i + 1) < 10 - i; omega, ?_, ?_⟩
                · (repeat' (first | exact trivial | refine And.intro (by with_reducible rfl) ?_ | (with_reducible exact wkC_refl _) | (with_reducible exact wkCs_refl _) | refine And.intro ?_ ?_))
                  all_goals first | rfl | exact av_int (by omega) | exact av_int (by rw [wrap_i64 (by omega)]; omega)
                · exact ⟨wkE_refl _, wkH_nil _⟩
          · rw [List.drop_of_length_le (by omega)] at hg
            have hg2 : grp 9 0 0 (c :: r) = .error 14 := by rw [← hg]; cases (9 - i) <;> rfl
            rw [hg2]
            (first | refine wX ?_ | exact wZ)
            exact ⟨_, rfl, _, _, rfl⟩
  · have hrd : rdNum d s = if s.length < sz d.letter then .error 14 else match whl d (s.take (sz d.letter)) with | .ok n => .ok (n, sz d.letter) | .error e => .error e := by
      unfold rdNum
      rw [if_neg (fun h => hz0 (by rw [show d.letter = 119 by simpa using h]; rfl)), if_neg (fun h => hz0 (by rw [show d.letter = 85 by simpa using h]; rfl))]
      rfl
    refine brd_dec (fun _ => ?_) (fun h => absurd (by omega) h)
    (first | refine wX ?_ | exact wZ)
    rw [hzs]
    refine brd_dec (fun h2 => ?_) (fun h2 => ?_)
    · rw [hrd, if_pos (by omega)]
      (first | refine wX ?_ | exact wZ)
      exact ⟨_, rfl, _, _, rfl⟩
    · rw [hrd, if_neg (by omega)]
      have hLl : (s.take (sz d.letter)).length = sz d.letter := by rw [List.length_take]; omega
      (first | refine wX ?_ | exact wZ)
      refine ReadW.sl_h (sz d.letter) rfl Tryz.underlying9 rfl rfl ⟨rfl, by omega⟩ ?_
      (first | refine wX ?_ | exact wZ)
      refine callQ (whole_r d (s.take (sz d.letter)) hz0 hLl _) ?_
      cases hw : whl d (s.take (sz d.letter)) with
      | error e =>
        (first | refine wX ?_ | exact wZ)
        exact ⟨_, rfl, _, _, rfl⟩
      | ok n =>
        (first | refine wX ?_ | exact wZ)
        exact ⟨_, rfl, rfl⟩
end Go.Proofs.YtjkchonpnocffaaGreatDoor

/-
  Contract: a text is cut out (document).
-/
namespace Go.Proofs.YtjkchonpnocffaaGreatDoor
open Go.AX Go.RowKit Go.Pack
set_option maxRecDepth 20000

theorem sl_rest (s : List UInt8) (n k : Nat) (b : List UInt8) (hb : s.take n = b) : b.length ≤ s.length ∧ s.take b.length = b := by
  subst hb
  refine ⟨by rw [List.length_take]; omega, ?_⟩
  rw [List.length_take, ← List.take_eq_take_min]
theorem cut_r (d : Dir) (s : List UInt8) (hc : CntOk d.letter d.count) (hs : s.length ≤ 1000000) : ∀ H, SpecH Tryz.prog 22 (pvs [dirV d, .string (bs s)]) H (Ret (.tuple #[.string (bs (cutS d s).1), .string (bs (s.drop (cutS d s).2))]) H) := by
  refine pureC hm Tryz.func22 (by kernel_rfl) rfl rfl ?_
  have h72 : ((d.letter.toNat : Int) == 72) = (d.letter == 72) := u8_eq (n := 72) (by decide)
  have h90 : ((d.letter.toNat : Int) == 90) = (d.letter == 90) := u8_eq (n := 90) (by decide)
  have h65 : ((d.letter.toNat : Int) == 65) = (d.letter == 65) := u8_eq (n := 65) (by decide)
  have hzs := bs_size s
  (first | refine wX ?_ | exact wZ)
  refine brd_eq (fun hk => ?_) (fun hk => ?_)
  · have hc2 : ∀ n, cntS d n = 1 := fun n => by unfold cntS; rw [if_pos hk]
    have hk1 : d.count ≠ -1 := by omega
    (first | refine wX ?_ | exact wZ)
    rw [h72]
    cases e72 : d.letter == 72 with
    | true =>
      have hnm : (1 : Int) = ((1 : Nat) : Int) := rfl
      -- 1: the digits; 1: as the number is spelled
      obtain ⟨b, hb⟩ : ∃ b, s.take ((1 + 1) / 2) = b := ⟨_, rfl⟩
      obtain ⟨hbs, hbt⟩ := sl_rest s _ 0 b hb
      have hbl : b.length = min ((1 + 1) / 2) s.length := by rw [← hb, List.length_take]
      have hcut : cutS d s = ((hex b).take (1), b.length) := by
        unfold cutS
        rw [if_pos e72, hc2, hb]
      have hmin : minI (IntKind.i64.wrap (Int.tdiv (IntKind.i64.wrap (1 + 1)) 2)) (s.length : Int) = ((b.length : Nat) : Int) := by
        rw [wrap_i64 (x := 1 + 1) (by omega), show Int.tdiv (1 + 1) 2 = (((1 + 1) / 2 : Nat) : Int) by rw [hnm]; exact (Int.ofNat_tdiv (1 + 1) 2).symm, wrap_i64 (by omega), hbl]
        unfold minI
        split <;> omega
      (first | refine wX ?_ | exact wZ)
      try rw [hzs]
      try (first | refine wX ?_ | exact wZ)
      try rw [hmin]
      refine ReadW.sl_h b.length rfl Tryz.underlying9 rfl rfl ⟨by rfl, hbs⟩ ?_
      rw [hbt]
      (first | refine wX ?_ | exact wZ)
      refine call1 (Hex_r b (by omega) _) ?_
      (first | refine wX ?_ | exact wZ)
      refine ReadW.sl_h (min (1) (hex b).length) rfl Tryz.underlying9 rfl rfl ⟨by rw [bs_size]; unfold minI; split <;> omega, Nat.min_le_right _ _⟩ ?_
      rw [← List.take_eq_take_min]
      (first | refine wX ?_ | exact wZ)
      refine ReadW.sl_l b.length rfl Tryz.underlying9 rfl rfl ⟨by rw [bs_size], hbs⟩ ?_
      (first | refine wX ?_ | exact wZ)
      rw [hcut]
    | false =>
      -- 1: how many bytes are taken; 1: as the number is spelled; some: whether all, exact absurd h.1 hk1: count
      obtain ⟨b, hb⟩ : ∃ b, s.take (1) = b := ⟨_, rfl⟩
      obtain ⟨hbs, hbt⟩ := sl_rest s _ 0 b hb
      have hbl : b.length = min (1) s.length := by rw [← hb, List.length_take]
      have hbz := bs_size b
      have hcut0 (h : ¬ (d.count = -1 ∧ (d.letter == 90) = true ∧ s.contains 0 = true)) : cutS d s = (if d.letter == 65 then trimA b else if d.letter == 90 then b.takeWhile (· != 0) else b, b.length) := by
        unfold cutS
        rw [if_neg (by rw [e72]; decide), if_neg h, hc2, hb]
      have hmin : minI (1) (s.length : Int) = ((b.length : Nat) : Int) := by
        rw [hbl]
        unfold minI
        split <;> omega
      (first | refine wX ?_ | exact wZ)
      try rw [hzs]
      try (first | refine wX ?_ | exact wZ)
      try rw [hmin]
      refine ReadW.sl_h b.length rfl Tryz.underlying9 rfl rfl ⟨by first | rfl | (rw [hzs, hmin]), hbs⟩ ?_
      rw [hbt]
      (first | refine wX ?_ | exact wZ)
      refine ReadW.sl_l b.length rfl Tryz.underlying9 rfl rfl ⟨by rw [bs_size], hbs⟩ ?_
      (first | refine wX ?_ | exact wZ)
      rw [h65]
      cases e65 : d.letter == 65 with
      | true =>
        have hcut : cutS d s = (trimA b, b.length) := by
          rw [hcut0 (fun h => by rw [show d.letter = 65 by simpa using e65] at h; exact absurd h.2.1 (by decide)), if_pos e65]
        (first | refine wX ?_ | exact wZ)
        refine call1 (TrimZ_c b (by omega) _) ?_
        (first | refine wX ?_ | exact wZ)
        rw [hcut]
      | false =>
        (first | refine wX ?_ | exact wZ)
        rw [h90]
        cases e90 : d.letter == 90 with
        | false =>
          have hcut : cutS d s = (b, b.length) := by
            rw [hcut0 (fun h => by rw [e90] at h; exact absurd h.2.1 (by decide)), if_neg (by rw [e65]; decide), if_neg (by rw [e90]; decide)]
          (first | refine wX ?_ | exact wZ)
          rw [hcut]
        | true =>
          (first | refine wX ?_ | exact wZ)
          refine call1 (IndexByte_c b 0 _) ?_
          rw [index0]
          by_cases hz : b.contains 0 = true
          · rw [if_pos hz]
            have htl := tw_lt hz
            obtain ⟨t, ht⟩ : ∃ t, b.takeWhile (· != 0) = t := ⟨_, rfl⟩
            rw [ht] at htl
            have htk : b.take t.length = t := by rw [← ht]; exact take0 b
            rw [ht]
            (first | refine wX ?_ | exact wZ)
            -- the count is not *
            refine brd_eq (fun h => absurd h hk1) (fun _ => ?_)
            have hcut : cutS d s = (t, b.length) := by
              rw [hcut0 (fun h => hk1 h.1), if_neg (by rw [e65]; decide), if_pos e90, ht]
            (first | refine wX ?_ | exact wZ)
            refine ReadW.sl_h t.length rfl Tryz.underlying9 rfl rfl ⟨rfl, by omega⟩ ?_
            rw [htk]
            (first | refine wX ?_ | exact wZ)
            rw [hcut]
          · rw [if_neg hz]
            have h0 : (0 : UInt8) ∉ b := fun h2 => hz (by simpa using h2)
            have hcut : cutS d s = (b, b.length) := by
              rw [hcut0 (fun h => hz (by exact absurd h.1 hk1)), if_neg (by rw [e65]; decide), if_pos e90, takeW0 h0]
            (first | refine wX ?_ | exact wZ)
            rw [hcut]
  · by_cases hk1 : d.count = -1
    · have hc2 : ∀ n, cntS d n = n := fun n => by unfold cntS; rw [if_neg hk, if_pos hk1]
      (first | refine wX ?_ | exact wZ)
      rw [h72]
      cases e72 : d.letter == 72 with
      | true =>
        have hnm : (2 : Int) * (s.length : Int) = ((2 * s.length : Nat) : Int) := by omega
        (first | refine wX ?_ | exact wZ)
        refine brd_eq (fun _ => ?_) (fun h => absurd hk1 h)
        (first | refine wX ?_ | exact wZ)
        rw [hzs]
        -- (2 * s.length): the digits; (2 * (s.length : Int)): as the number is spelled
        obtain ⟨b, hb⟩ : ∃ b, s.take (((2 * s.length) + 1) / 2) = b := ⟨_, rfl⟩
        obtain ⟨hbs, hbt⟩ := sl_rest s _ 0 b hb
        have hbl : b.length = min (((2 * s.length) + 1) / 2) s.length := by rw [← hb, List.length_take]
        have hcut : cutS d s = ((hex b).take ((2 * s.length)), b.length) := by
          unfold cutS
          rw [if_pos e72, hc2, hb]
        have hmin : minI (IntKind.i64.wrap (Int.tdiv (IntKind.i64.wrap ((2 * (s.length : Int)) + 1)) 2)) (s.length : Int) = ((b.length : Nat) : Int) := by
          rw [wrap_i64 (x := (2 * (s.length : Int)) + 1) (by omega), show Int.tdiv ((2 * (s.length : Int)) + 1) 2 = ((((2 * s.length) + 1) / 2 : Nat) : Int) by rw [hnm]; exact (Int.ofNat_tdiv ((2 * s.length) + 1) 2).symm, wrap_i64 (by omega), hbl]
          unfold minI
          split <;> omega
        (first | refine wX ?_ | exact wZ)
        try rw [hzs]
        try (first | refine wX ?_ | exact wZ)
        try rw [hmin]
        refine ReadW.sl_h b.length rfl Tryz.underlying9 rfl rfl ⟨by rfl, hbs⟩ ?_
        rw [hbt]
        (first | refine wX ?_ | exact wZ)
        refine call1 (Hex_r b (by omega) _) ?_
        (first | refine wX ?_ | exact wZ)
        refine ReadW.sl_h (min ((2 * s.length)) (hex b).length) rfl Tryz.underlying9 rfl rfl ⟨by rw [bs_size]; unfold minI; split <;> omega, Nat.min_le_right _ _⟩ ?_
        rw [← List.take_eq_take_min]
        (first | refine wX ?_ | exact wZ)
        refine ReadW.sl_l b.length rfl Tryz.underlying9 rfl rfl ⟨by rw [bs_size], hbs⟩ ?_
        (first | refine wX ?_ | exact wZ)
        rw [hcut]
      | false =>
        (first | refine wX ?_ | exact wZ)
        refine brd_eq (fun _ => ?_) (fun h => absurd hk1 h)
        (first | refine wX ?_ | exact wZ)
        try rw [hzs]
        -- s.length: how many bytes are taken; (s.length : Int): as the number is spelled; all: whether all, rw [← hb, List.take_length]; exact h.2.2: count
        obtain ⟨b, hb⟩ : ∃ b, s.take (s.length) = b := ⟨_, rfl⟩
        obtain ⟨hbs, hbt⟩ := sl_rest s _ 0 b hb
        have hbl : b.length = min (s.length) s.length := by rw [← hb, List.length_take]
        have hbz := bs_size b
        have hcut0 (h : ¬ (d.count = -1 ∧ (d.letter == 90) = true ∧ s.contains 0 = true)) : cutS d s = (if d.letter == 65 then trimA b else if d.letter == 90 then b.takeWhile (· != 0) else b, b.length) := by
          unfold cutS
          rw [if_neg (by rw [e72]; decide), if_neg h, hc2, hb]
        have hmin : minI ((s.length : Int)) (s.length : Int) = ((b.length : Nat) : Int) := by
          rw [hbl]
          unfold minI
          split <;> omega
        (first | refine wX ?_ | exact wZ)
        try rw [hzs]
        try (first | refine wX ?_ | exact wZ)
        try rw [hmin]
        refine ReadW.sl_h b.length rfl Tryz.underlying9 rfl rfl ⟨by first | rfl | (rw [hzs, hmin]), hbs⟩ ?_
        rw [hbt]
        (first | refine wX ?_ | exact wZ)
        refine ReadW.sl_l b.length rfl Tryz.underlying9 rfl rfl ⟨by rw [bs_size], hbs⟩ ?_
        (first | refine wX ?_ | exact wZ)
        rw [h65]
        cases e65 : d.letter == 65 with
        | true =>
          have hcut : cutS d s = (trimA b, b.length) := by
            rw [hcut0 (fun h => by rw [show d.letter = 65 by simpa using e65] at h; exact absurd h.2.1 (by decide)), if_pos e65]
          (first | refine wX ?_ | exact wZ)
          refine call1 (TrimZ_c b (by omega) _) ?_
          (first | refine wX ?_ | exact wZ)
          rw [hcut]
        | false =>
          (first | refine wX ?_ | exact wZ)
          rw [h90]
          cases e90 : d.letter == 90 with
          | false =>
            have hcut : cutS d s = (b, b.length) := by
              rw [hcut0 (fun h => by rw [e90] at h; exact absurd h.2.1 (by decide)), if_neg (by rw [e65]; decide), if_neg (by rw [e90]; decide)]
            (first | refine wX ?_ | exact wZ)
            rw [hcut]
          | true =>
            (first | refine wX ?_ | exact wZ)
            refine call1 (IndexByte_c b 0 _) ?_
            rw [index0]
            by_cases hz : b.contains 0 = true
            · rw [if_pos hz]
              have htl := tw_lt hz
              obtain ⟨t, ht⟩ : ∃ t, b.takeWhile (· != 0) = t := ⟨_, rfl⟩
              rw [ht] at htl
              have htk : b.take t.length = t := by rw [← ht]; exact take0 b
              rw [ht]
              (first | refine wX ?_ | exact wZ)
              have hbe : b = s := by rw [← hb, List.take_length]
              refine brd_eq (fun _ => ?_) (fun h => absurd hk1 h)
              have hcut : cutS d s = (t, t.length + 1) := by
                unfold cutS
                rw [if_neg (by rw [e72]; decide), if_pos ⟨hk1, e90, by rw [← hbe]; exact hz⟩, ← hbe, ht]
              have hw1 : IntKind.i64.wrap ((t.length : Int) + 1) = ((t.length + 1 : Nat) : Int) := by rw [wrap_i64 (by omega)]; omega
              (first | refine wX ?_ | exact wZ)
              refine ReadW.sl_l (t.length + 1) rfl Tryz.underlying9 rfl rfl ⟨by first | rfl | exact hw1, by omega⟩ ?_
              (first | refine wX ?_ | exact wZ)
              refine ReadW.sl_h t.length rfl Tryz.underlying9 rfl rfl ⟨rfl, by omega⟩ ?_
              rw [htk]
              (first | refine wX ?_ | exact wZ)
              rw [hcut]
            · rw [if_neg hz]
              have h0 : (0 : UInt8) ∉ b := fun h2 => hz (by simpa using h2)
              have hcut : cutS d s = (b, b.length) := by
                rw [hcut0 (fun h => hz (by rw [← hb, List.take_length]; exact h.2.2)), if_neg (by rw [e65]; decide), if_pos e90, takeW0 h0]
              (first | refine wX ?_ | exact wZ)
              rw [hcut]
    · obtain ⟨T, hT⟩ : ∃ T : Nat, d.count.toNat = T := ⟨_, rfl⟩
      have hT2 : d.count = (T : Int) ∧ T ≤ 1000 := by
        unfold CntOk at hc
        omega
      have hc2 : ∀ n, cntS d n = T := fun n => by unfold cntS; rw [if_neg hk, if_neg hk1]; exact hT
      (first | refine wX ?_ | exact wZ)
      rw [h72]
      cases e72 : d.letter == 72 with
      | true =>
        have hnm := hT2.1
        (first | refine wX ?_ | exact wZ)
        refine brd_eq (fun h => absurd h hk1) (fun _ => ?_)
        -- T: the digits; d.count: as the number is spelled
        obtain ⟨b, hb⟩ : ∃ b, s.take ((T + 1) / 2) = b := ⟨_, rfl⟩
        obtain ⟨hbs, hbt⟩ := sl_rest s _ 0 b hb
        have hbl : b.length = min ((T + 1) / 2) s.length := by rw [← hb, List.length_take]
        have hcut : cutS d s = ((hex b).take (T), b.length) := by
          unfold cutS
          rw [if_pos e72, hc2, hb]
        have hmin : minI (IntKind.i64.wrap (Int.tdiv (IntKind.i64.wrap (d.count + 1)) 2)) (s.length : Int) = ((b.length : Nat) : Int) := by
          rw [wrap_i64 (x := d.count + 1) (by omega), show Int.tdiv (d.count + 1) 2 = (((T + 1) / 2 : Nat) : Int) by rw [hnm]; exact (Int.ofNat_tdiv (T + 1) 2).symm, wrap_i64 (by omega), hbl]
          unfold minI
          split <;> omega
        (first | refine wX ?_ | exact wZ)
        try rw [hzs]
        try (first | refine wX ?_ | exact wZ)
        try rw [hmin]
        refine ReadW.sl_h b.length rfl Tryz.underlying9 rfl rfl ⟨by rfl, hbs⟩ ?_
        rw [hbt]
        (first | refine wX ?_ | exact wZ)
        refine call1 (Hex_r b (by omega) _) ?_
        (first | refine wX ?_ | exact wZ)
        refine ReadW.sl_h (min (T) (hex b).length) rfl Tryz.underlying9 rfl rfl ⟨by rw [bs_size]; unfold minI; split <;> omega, Nat.min_le_right _ _⟩ ?_
        rw [← List.take_eq_take_min]
        (first | refine wX ?_ | exact wZ)
        refine ReadW.sl_l b.length rfl Tryz.underlying9 rfl rfl ⟨by rw [bs_size], hbs⟩ ?_
        (first | refine wX ?_ | exact wZ)
        rw [hcut]
      | false =>
        (first | refine wX ?_ | exact wZ)
        refine brd_eq (fun h => absurd h hk1) (fun _ => ?_)
        -- T: how many bytes are taken; d.count: as the number is spelled; some: whether all, exact absurd h.1 hk1: count
        obtain ⟨b, hb⟩ : ∃ b, s.take (T) = b := ⟨_, rfl⟩
        obtain ⟨hbs, hbt⟩ := sl_rest s _ 0 b hb
        have hbl : b.length = min (T) s.length := by rw [← hb, List.length_take]
        have hbz := bs_size b
        have hcut0 (h : ¬ (d.count = -1 ∧ (d.letter == 90) = true ∧ s.contains 0 = true)) : cutS d s = (if d.letter == 65 then trimA b else if d.letter == 90 then b.takeWhile (· != 0) else b, b.length) := by
          unfold cutS
          rw [if_neg (by rw [e72]; decide), if_neg h, hc2, hb]
        have hmin : minI (d.count) (s.length : Int) = ((b.length : Nat) : Int) := by
          rw [hbl]
          unfold minI
          split <;> omega
        (first | refine wX ?_ | exact wZ)
        try rw [hzs]
        try (first | refine wX ?_ | exact wZ)
        try rw [hmin]
        refine ReadW.sl_h b.length rfl Tryz.underlying9 rfl rfl ⟨by first | rfl | (rw [hzs, hmin]), hbs⟩ ?_
        rw [hbt]
        (first | refine wX ?_ | exact wZ)
        refine ReadW.sl_l b.length rfl Tryz.underlying9 rfl rfl ⟨by rw [bs_size], hbs⟩ ?_
        (first | refine wX ?_ | exact wZ)
        rw [h65]
        cases e65 : d.letter == 65 with
        | true =>
          have hcut : cutS d s = (trimA b, b.length) := by
            rw [hcut0 (fun h => by rw [show d.letter = 65 by simpa using e65] at h; exact absurd h.2.1 (by decide)), if_pos e65]
          (first | refine wX ?_ | exact wZ)
          refine call1 (TrimZ_c b (by omega) _) ?_
          (first | refine wX ?_ | exact wZ)
          rw [hcut]
        | false =>
          (first | refine wX ?_ | exact wZ)
          rw [h90]
          cases e90 : d.letter == 90 with
          | false =>
            have hcut : cutS d s = (b, b.length) := by
              rw [hcut0 (fun h => by rw [e90] at h; exact absurd h.2.1 (by decide)), if_neg (by rw [e65]; decide), if_neg (by rw [e90]; decide)]
            (first | refine wX ?_ | exact wZ)
            rw [hcut]
          | true =>
            (first | refine wX ?_ | exact wZ)
            refine call1 (IndexByte_c b 0 _) ?_
            rw [index0]
            by_cases hz : b.contains 0 = true
            · rw [if_pos hz]
              have htl := tw_lt hz
              obtain ⟨t, ht⟩ : ∃ t, b.takeWhile (· != 0) = t := ⟨_, rfl⟩
              rw [ht] at htl
              have htk : b.take t.length = t := by rw [← ht]; exact take0 b
              rw [ht]
              (first | refine wX ?_ | exact wZ)
              -- the count is not *
              refine brd_eq (fun h => absurd h hk1) (fun _ => ?_)
              have hcut : cutS d s = (t, b.length) := by
                rw [hcut0 (fun h => hk1 h.1), if_neg (by rw [e65]; decide), if_pos e90, ht]
              (first | refine wX ?_ | exact wZ)
              refine ReadW.sl_h t.length rfl Tryz.underlying9 rfl rfl ⟨rfl, by omega⟩ ?_
              rw [htk]
              (first | refine wX ?_ | exact wZ)
              rw [hcut]
            · rw [if_neg hz]
              have h0 : (0 : UInt8) ∉ b := fun h2 => hz (by simpa using h2)
              have hcut : cutS d s = (b, b.length) := by
                rw [hcut0 (fun h => hz (by exact absurd h.1 hk1)), if_neg (by rw [e65]; decide), if_pos e90, takeW0 h0]
              (first | refine wX ?_ | exact wZ)
              rw [hcut]
end Go.Proofs.YtjkchonpnocffaaGreatDoor

/-
  Contract: Unpack (document).
-/
namespace Go.Proofs.YtjkchonpnocffaaGreatDoor
open Go.AX Go.RowKit Go.Pack
set_option maxRecDepth 20000

theorem grp_le : ∀ (f n i : Nat) (s : List UInt8) (x : Int × Nat), grp f n i s = .ok x → x.2 ≤ i + s.length
  | f, n, i, [], x, h => by cases f <;> cases h
  | 0, n, i, c :: r, x, h => by cases h
  | f + 1, n, i, c :: r, x, h => by
    rw [grp_cons] at h
    split at h
    · cases h
    split at h
    · cases h
      show i + 1 ≤ i + (r.length + 1)
      omega
    · have := grp_le f _ (i + 1) r x h
      rw [List.length_cons]
      omega
theorem rdNum_le {d : Dir} {s : List UInt8} {x : Int × Nat} (h : rdNum d s = .ok x) : x.2 ≤ s.length := by
  unfold rdNum at h
  split at h
  · have := grp_le _ _ _ _ _ h
    omega
  split at h
  · split at h
    · cases h
    split at h
    · rename_i n k hr
      cases h
      exact (runeD_le hr).2.1
    · cases h
  · split at h
    · cases h
    split at h
    · cases h
      show sz d.letter ≤ s.length
      omega
    · cases h
def itemsR (l : List Pack.Item) (ob : Option Nat) (cap : Nat) : Ent := .app 71 3 (itemsC l) (at0 ob) l.length cap
theorem numB_isStr {c : UInt8} (hl : letters.contains c = true) (h1 : (c == 120) = false) (h2 : (c == 64) = false) : numB c = !isStr c := by
  have hl2 : c ∈ letters := by simpa using hl
  simp only [letters, List.mem_cons, List.not_mem_nil, or_false] at hl2
  rcases hl2 with rfl | rfl | rfl | rfl | rfl | rfl | rfl | rfl | rfl | rfl | rfl | rfl | rfl | rfl | rfl | rfl | rfl | rfl <;> first | rfl | (exact absurd h1 (by decide)) | (exact absurd h2 (by decide))
set_option maxHeartbeats 2000000 in
theorem RUnpack_r (form s : List UInt8) (hf : form.length ≤ 100000) (hs : s.length ≤ 1000000) : SpecF Tryz.prog 7 [.string (bs form), .string (bs s)] (fun _ => True) (UnR (unpackS form s)) := by
  refine specF hm Tryz.func7 (by kernel_rfl) rfl rfl ?_
  (first | refine wX ?_ | exact wZ)
  refine SpecF.call (rread_c form hf) (fun w _ => trivial) fun v G hR => ?_
  unfold unpackS
  cases hfm : forms form with
  | none =>
    rw [hfm] at hR
    obtain ⟨y, n, cap, rfl⟩ := hR
    (first | refine wX ?_ | exact wZ)
    exact fin_v rfl
  | some ds =>
    rw [hfm] at hR
    obtain ⟨db, dcap, rfl, hdb, hG⟩ := hR
    obtain ⟨h50, hok⟩ := forms_ok hfm
    (first | refine wX ?_ | exact wZ)
    refine LoopN.intro (Nat × Nat × List Pack.Item × Option Nat × Nat) (fun ⟨i, a, l, ob, cap⟩ => i ≤ ds.length ∧ a ≤ s.length ∧ l.length ≤ 1000001 * i ∧ ((ob = none → l = [] ∧ cap = 0) ∧ l.length ≤ cap) ∧ unS s (ds.drop i) (s.drop a) l = unS s ds s [])
      (fun ⟨i, a, l, ob, cap⟩ => mkS Tryz.f7.ntmps 0 [(1, .c (.v (.string (bs (s.drop a))))), (6, .c (.v (.slice (at0 db) ds.length dcap))), (8, .c (.v (.string (bs s)))), (9, .c (.v (.slice (at0 ob) l.length cap))), (10, .c (.v (.int .i64 (i : Int))))])
      (fun ⟨_, a, l, ob, cap⟩ => [.fact fun _ => True, .fact G, itemsR l ob cap]) (fun ⟨i, _, _, _, _⟩ => ds.length - i) [.app 0 0 [] none 0 0] rfl
      (fun _ => rfl) (fun _ => rfl) (fun _ _ => okHB_eq rfl) ⟨(0, 0, [], none, 0), ⟨Nat.zero_le _, Nat.zero_le _, Nat.zero_le _, ⟨fun _ => ⟨rfl, rfl⟩, Nat.le_refl _⟩, rfl⟩, ?_, ?_⟩ ?_
    · (repeat' (first | exact trivial | refine And.intro (by with_reducible rfl) ?_ | (with_reducible exact wkC_refl _) | (with_reducible exact wkCs_refl _) | refine And.intro ?_ ?_))
      all_goals rfl
    · exact ⟨wkE_refl _, wkE_refl _, wkE_nil, wkH_nil _⟩
    rintro ⟨i, a, l, ob, cap⟩ ⟨hid, ha, hll, hob, hrun⟩
    (first | refine wX ?_ | exact wZ)
    refine brd_dec (fun h1 => ?_) (fun h1 => ?_)
    · obtain ⟨d, hd⟩ : ∃ d, ds[i]? = some d := ⟨_, List.getElem?_eq_getElem (by omega)⟩
      have hdok := hok d (List.mem_of_getElem? hd)
      obtain ⟨db, rfl⟩ : ∃ g, db = some g := by
        cases db with
        | none => rw [hdb rfl] at hd; cases hd
        | some g => exact ⟨g, rfl⟩
      have hc1 : d.count ≤ 1000 := by
        have := hdok.2
        unfold CntOk at this
        omega
      have hll2 : l.length ≤ 51000000 := Nat.le_trans hll (by omega)
      have hzs := bs_size s
      have hza := bs_size (s.drop a)
      have hdl := List.length_drop (l := s) (i := a)
      have h64 : ((d.letter.toNat : Int) == 64) = (d.letter == 64) := u8_eq (n := 64) (by decide)
      have h120 : ((d.letter.toNat : Int) == 120) = (d.letter == 120) := u8_eq (n := 120) (by decide)
      have hdr : unS s (ds.drop i) (s.drop a) l = unS s (d :: ds.drop (i + 1)) (s.drop a) l := by
        rw [List.drop_eq_getElem_cons (by omega), (List.getElem?_eq_some_iff.1 hd).2]
      rw [hdr, unS_cons] at hrun
      (first | refine wX ?_ | exact wZ)
      refine Nd.mk ⟨rfl, by omega, by omega⟩ ?_
      (first | refine wX ?_ | exact wZ)
      refine LdN.agg (dirC d) rfl (fun w hw => hG w hw.2.1) rfl (fun j hj => by
        rw [Int.toNat_natCast]
        exact dirsC_get ds i j hj hd) ?_
      (first | refine wX ?_ | exact wZ)
      refine brd_eq (fun hk => ?_) (fun hk => ?_)
      · (first | refine wX ?_ | exact wZ)
        -- 1: the count as it is spelled
        rw [h120]
        cases e120 : d.letter == 120 with
        | true =>
          have hl : d.letter = 120 := by simpa using e120
          rw [hl, if_neg (by decide), if_pos (by decide)] at hrun
          obtain ⟨m, hm⟩ : ∃ m : Nat, (max 1 d.count).toNat = m := ⟨_, rfl⟩
          have hmn : 1 = (m : Int) := by
            have := hdok.2
            unfold CntOk at this
            rw [hl] at this
            rcases this with h | h | h
            · exact absurd rfl h.2.1
            · omega
            · have := h.2.2 (by decide)
              omega
          rw [hm, List.length_drop] at hrun
          (first | refine wX ?_ | exact wZ)
          rw [hza, hdl]
          refine brd_dec (fun h2 => ?_) (fun h2 => ?_)
          · rw [if_pos (by omega)] at hrun
            (first | refine wX ?_ | exact wZ)
            refine fin_v ?_
            show UnR (unS s ds s []) _ _
            rw [← hrun]
            rfl
          · rw [if_neg (by omega), List.drop_drop] at hrun
            (first | refine wX ?_ | exact wZ)
            refine ReadW.sl_l m rfl Tryz.underlying9 rfl rfl ⟨hmn, by omega⟩ ?_
            rw [List.drop_drop]
            (first | refine wX ?_ | exact wZ)
            refine ⟨(i + 1, a + m, l, ob, cap), ⟨by omega, by omega, by omega, hob, hrun⟩, by show ds.length - (i + 1) < ds.length - i; omega, ?_, ?_⟩
            · (repeat' (first | exact trivial | refine And.intro (by with_reducible rfl) ?_ | (with_reducible exact wkC_refl _) | (with_reducible exact wkCs_refl _) | refine And.intro ?_ ?_))
              all_goals first | rfl | exact av_int (by rw [wrap_i64 (by omega)]; omega)
            · exact ⟨wkE_refl _, wkE_refl _, wkE_refl _, wkH_nil _⟩
        | false =>
          rw [if_neg (show ¬ (d.letter == 120) = true by rw [e120]; decide)] at hrun
          (first | refine wX ?_ | exact wZ)
          rw [h64]
          cases e64 : d.letter == 64 with
          | true =>
            rw [if_pos e64] at hrun
            obtain ⟨m, hm⟩ : ∃ m : Nat, (max 0 d.count).toNat = m := ⟨_, rfl⟩
            have hmx : maxI 0 d.count = (m : Int) := by unfold maxI; split <;> omega
            (first | refine wX ?_ | exact wZ)
            rw [hmx, hzs]
            refine brd_dec (fun h2 => ?_) (fun h2 => ?_)
            · rw [if_pos (by omega)] at hrun
              (first | refine wX ?_ | exact wZ)
              refine fin_v ?_
              show UnR (unS s ds s []) _ _
              rw [← hrun]
              rfl
            · rw [if_neg (by omega), hm] at hrun
              (first | refine wX ?_ | exact wZ)
              refine ReadW.sl_l m rfl Tryz.underlying9 rfl rfl ⟨rfl, by omega⟩ ?_
              (first | refine wX ?_ | exact wZ)
              refine ⟨(i + 1, m, l, ob, cap), ⟨by omega, by omega, by omega, hob, hrun⟩, by show ds.length - (i + 1) < ds.length - i; omega, ?_, ?_⟩
              · (repeat' (first | exact trivial | refine And.intro (by with_reducible rfl) ?_ | (with_reducible exact wkC_refl _) | (with_reducible exact wkCs_refl _) | refine And.intro ?_ ?_))
                all_goals first | rfl | exact av_int (by rw [wrap_i64 (by omega)]; omega)
              · exact ⟨wkE_refl _, wkE_refl _, wkE_refl _, wkH_nil _⟩
          | false =>
            rw [if_neg (show ¬ (d.letter == 64) = true by rw [e64]; decide)] at hrun
            (first | refine wX ?_ | exact wZ)
            refine call1 (number_r d.letter _) ?_
            rw [numB_isStr hdok.1 e120 e64]
            cases hst : isStr d.letter with
            | true =>
              rw [if_pos hst, List.drop_drop] at hrun
              have hcl : a + (cutS d (s.drop a)).2 ≤ s.length := by
                have := cutS_le d (s.drop a)
                rw [List.length_drop] at this
                omega
              (first | refine wX ?_ | exact wZ)
              refine call1 (cut_r d (s.drop a) hdok.2 (by omega) _) ?_
              rw [List.drop_drop]
              (first | refine wX ?_ | exact wZ)
              refine Nd.mk ⟨Nat.le_refl 1, rfl, rfl⟩ ?_
              (conv => whnf)
              refine AppN.grow 2 (itemsC l) (itemC ⟨true, 0, (cutS d (s.drop a)).1⟩) rfl rfl ⟨Nat.le_refl 1, ⟨by show (l.length + 1) * 32 ≤ _; omega, by omega⟩, by show 3 ≠ 0; omega⟩ fun b' cap2 h11 h12 => ?_
              (first | refine wX ?_ | exact wZ)
              refine ⟨(i + 1, a + (cutS d (s.drop a)).2, l ++ [⟨true, 0, (cutS d (s.drop a)).1⟩], some b', cap2), ⟨by omega, hcl, by simp; omega, ⟨fun h => (by cases h), by rw [List.length_append]; exact h11⟩, hrun⟩, by show ds.length - (i + 1) < ds.length - i; omega, ?_, ?_⟩
              · (repeat' (first | exact trivial | refine And.intro (by with_reducible rfl) ?_ | (with_reducible exact wkC_refl _) | (with_reducible exact wkCs_refl _) | refine And.intro ?_ ?_))
                all_goals first | rfl | (rw [List.length_append]; rfl) | exact av_int (by rw [wrap_i64 (by omega)]; omega)
              · exact ⟨wkE_refl _, wkE_refl _, .inl ⟨rfl, rfl, itemsC_snoc _ _, rfl, by rw [List.length_append]; rfl, rfl⟩, wkH_nil _⟩
            | false =>
              rw [if_neg (show ¬ isStr d.letter = true by rw [hst]; decide)] at hrun
              have hpl : isPl d.letter = false := by unfold isPl; rw [e120, e64]; rfl
              have hz := letter_num hdok.1 hst hpl
              (first | refine wX ?_ | exact wZ)
              have hk1 : ¬ d.count = -1 := by omega
              have hcn : cntS d 0 = 1 := by unfold cntS; rw [if_pos hk]
              -- so many numbers: 1; as the count is spelled: 1
              have hN : numsS d (s.drop a) = cntN d (1) (s.drop a) [] := by unfold numsS; rw [if_neg hk1, hcn]
              refine LoopN.intro (Nat × Nat × List Int × List Pack.Item × Option Nat × Nat) (fun ⟨r, at', ns, l', ob', cap'⟩ => at' ≤ s.length ∧ ns.length + r = 1 ∧ l' = l ++ ns.map intI ∧ ((ob' = none → l' = [] ∧ cap' = 0) ∧ l'.length ≤ cap') ∧ cntN d r (s.drop at') ns = cntN d (1) (s.drop a) [])
                (fun ⟨r, at', _, l', ob', cap'⟩ => mkS Tryz.f7.ntmps 0 [(1, .c (.v (.string (bs (s.drop at'))))), (6, .c (.v (.slice (at0 (some db)) ds.length dcap))), (8, .c (.v (.string (bs s)))), (9, .c (.v (.slice (at0 ob') l'.length cap'))), (10, .c (.v (.int .i64 (i : Int)))), (11, .c (.lp 3 0)), (12, .c (.v (.int .i64 (r : Int))))])
                (fun ⟨_, at', _, l', ob', cap'⟩ => [.fact fun _ => True, .fact G, itemsR l' ob' cap', .blk 66 [.v (.int .u8 (d.letter.toNat : Int)), .v (.bool d.big), .v (.int .i64 d.count)]]) (fun ⟨r, _, _, _, _, _⟩ => r) [] rfl
                (fun _ => rfl) (fun _ => rfl) (fun _ _ => okHB_eq rfl) ⟨(1, a, [], l, ob, cap), ⟨ha, by simp, by simp, hob, rfl⟩, ?_, ?_⟩ ?_
              · (repeat' (first | exact trivial | refine And.intro (by with_reducible rfl) ?_ | (with_reducible exact wkC_refl _) | (with_reducible exact wkCs_refl _) | refine And.intro ?_ ?_))
                all_goals first | rfl | exact av_int (by omega)
              · exact ⟨wkE_refl _, wkE_refl _, wkE_refl _, wkE_refl _, wkH_nil _⟩
              rintro ⟨r, at', ns, l', ob', cap'⟩ ⟨hat, hja, hl', hob', hgo⟩
              have hns2 : (ns.map intI).length = ns.length := by simp
              have hlen : l'.length ≤ l.length + 1000 := by rw [hl', List.length_append]; omega
              (first | refine wX ?_ | exact wZ)
              refine brd_ne (fun h7 => ?_) (fun h7 => ?_)
              · obtain ⟨r, rfl⟩ : ∃ r2, r = r2 + 1 := ⟨r - 1, by omega⟩
                rw [cntN_succ] at hgo
                (first | refine wX ?_ | exact wZ)
                try refine brd_ne (fun _ => ?_) (fun h => absurd h (by omega))
                -- one number more: state (r or j, at', ns, l', ob', cap'); refine ⟨(r, at' + k, ns ++ [n], l' ++ [intI n], some b', cap2), ⟨by omega, by rw [List.length_append]; show ns.length + 1 + r = _; omega, hl3, ⟨fun h => (by cases h), by rw [List.length_append]; exact h11⟩, by rw [← hgo, List.drop_drop]⟩, by show r < r + 1; omega, ?_, ?_⟩: the next state
                (first | refine wX ?_ | exact wZ)
                refine callR (one_r d (s.drop at') hz (by rw [List.length_drop]; omega) _) fun v hv => ?_
                cases hr : rdNum d (s.drop at') with
                | error e0 =>
                  rw [hr] at hv hgo
                  obtain ⟨x9, y9, rfl⟩ := hv
                  have he := rdNum_err hr
                  rw [hN, ← hgo] at hrun
                  (first | refine wX ?_ | exact wZ)
                  refine brd_ne (fun _ => ?_) (fun h6 => absurd h6 he)
                  (first | refine wX ?_ | exact wZ)
                  refine fin_v ?_
                  show UnR (unS s ds s []) _ _
                  rw [← hrun]
                  rfl
                | ok x =>
                  obtain ⟨n, k⟩ := x
                  have hk9 := rdNum_pos hz hr
                  have hk8 := rdNum_le hr
                  rw [hr] at hv hgo
                  obtain rfl := hv
                  rw [List.length_drop] at hk8
                  simp only at hgo hk9 hk8
                  (first | refine wX ?_ | exact wZ)
                  refine Nd.mk ⟨Nat.le_refl 1, rfl, rfl⟩ ?_
                  (conv => whnf)
                  refine AppN.grow 2 (itemsC l') (itemC (intI n)) rfl rfl ⟨Nat.le_refl 1, ⟨by show (l'.length + 1) * 32 ≤ _; omega, by omega⟩, by show 3 ≠ 0; omega⟩ fun b' cap2 h11 h12 => ?_
                  (first | refine wX ?_ | exact wZ)
                  refine ReadW.sl_l k rfl Tryz.underlying9 rfl rfl ⟨rfl, by rw [List.length_drop]; omega⟩ ?_
                  rw [List.drop_drop]
                  (first | refine wX ?_ | exact wZ)
                  have hl3 : l' ++ [intI n] = l ++ (ns ++ [n]).map intI := by rw [hl']; simp
                  refine brd_dec (fun _ => ?_) (fun h => absurd (by omega) h)
                  (first | refine wX ?_ | exact wZ)
                  refine ⟨(r, at' + k, ns ++ [n], l' ++ [intI n], some b', cap2), ⟨by omega, by rw [List.length_append]; show ns.length + 1 + r = _; omega, hl3, ⟨fun h => (by cases h), by rw [List.length_append]; exact h11⟩, by rw [← hgo, List.drop_drop]⟩, by show r < r + 1; omega, ?_, ?_⟩
                  · (repeat' (first | exact trivial | refine And.intro (by with_reducible rfl) ?_ | (with_reducible exact wkC_refl _) | (with_reducible exact wkCs_refl _) | refine And.intro ?_ ?_))
                    all_goals first | rfl | (rw [List.length_append]; rfl) | exact av_int (by first | omega | (rw [wrap_i64 (by omega)]; omega))
                  · exact ⟨wkE_refl _, wkE_refl _, .inl ⟨rfl, rfl, itemsC_snoc _ _, rfl, by rw [List.length_append]; rfl, rfl⟩, wkE_refl _, wkH_nil _⟩
              · have hr0 : r = 0 := by omega
                subst hr0
                have hgo2 : cntN d (1) (s.drop a) [] = .ok (ns, s.drop at') := hgo.symm
                rw [hN, hgo2] at hrun
                simp only at hrun
                rw [← hl'] at hrun
                (first | refine wX ?_ | exact wZ)
                refine ⟨(i + 1, at', l', ob', cap'), ⟨by omega, hat, by omega, hob', hrun⟩, by show ds.length - (i + 1) < ds.length - i; omega, ?_, ?_⟩
                · (repeat' (first | exact trivial | refine And.intro (by with_reducible rfl) ?_ | (with_reducible exact wkC_refl _) | (with_reducible exact wkCs_refl _) | refine And.intro ?_ ?_))
                  all_goals first | rfl | exact av_int (by rw [wrap_i64 (by omega)]; omega)
                · exact ⟨wkE_refl _, wkE_refl _, wkE_refl _, wkH_nil _⟩
      · (first | refine wX ?_ | exact wZ)
        -- d.count: the count as it is spelled
        rw [h120]
        cases e120 : d.letter == 120 with
        | true =>
          have hl : d.letter = 120 := by simpa using e120
          rw [hl, if_neg (by decide), if_pos (by decide)] at hrun
          obtain ⟨m, hm⟩ : ∃ m : Nat, (max 1 d.count).toNat = m := ⟨_, rfl⟩
          have hmn : d.count = (m : Int) := by
            have := hdok.2
            unfold CntOk at this
            rw [hl] at this
            rcases this with h | h | h
            · exact absurd rfl h.2.1
            · omega
            · have := h.2.2 (by decide)
              omega
          rw [hm, List.length_drop] at hrun
          (first | refine wX ?_ | exact wZ)
          rw [hza, hdl]
          refine brd_dec (fun h2 => ?_) (fun h2 => ?_)
          · rw [if_pos (by omega)] at hrun
            (first | refine wX ?_ | exact wZ)
            refine fin_v ?_
            show UnR (unS s ds s []) _ _
            rw [← hrun]
            rfl
          · rw [if_neg (by omega), List.drop_drop] at hrun
            (first | refine wX ?_ | exact wZ)
            refine ReadW.sl_l m rfl Tryz.underlying9 rfl rfl ⟨hmn, by omega⟩ ?_
            rw [List.drop_drop]
            (first | refine wX ?_ | exact wZ)
            refine ⟨(i + 1, a + m, l, ob, cap), ⟨by omega, by omega, by omega, hob, hrun⟩, by show ds.length - (i + 1) < ds.length - i; omega, ?_, ?_⟩
            · (repeat' (first | exact trivial | refine And.intro (by with_reducible rfl) ?_ | (with_reducible exact wkC_refl _) | (with_reducible exact wkCs_refl _) | refine And.intro ?_ ?_))
              all_goals first | rfl | exact av_int (by rw [wrap_i64 (by omega)]; omega)
            · exact ⟨wkE_refl _, wkE_refl _, wkE_refl _, wkH_nil _⟩
        | false =>
          rw [if_neg (show ¬ (d.letter == 120) = true by rw [e120]; decide)] at hrun
          (first | refine wX ?_ | exact wZ)
          rw [h64]
          cases e64 : d.letter == 64 with
          | true =>
            rw [if_pos e64] at hrun
            obtain ⟨m, hm⟩ : ∃ m : Nat, (max 0 d.count).toNat = m := ⟨_, rfl⟩
            have hmx : maxI 0 d.count = (m : Int) := by unfold maxI; split <;> omega
            (first | refine wX ?_ | exact wZ)
            rw [hmx, hzs]
            refine brd_dec (fun h2 => ?_) (fun h2 => ?_)
            · rw [if_pos (by omega)] at hrun
              (first | refine wX ?_ | exact wZ)
              refine fin_v ?_
              show UnR (unS s ds s []) _ _
              rw [← hrun]
              rfl
            · rw [if_neg (by omega), hm] at hrun
              (first | refine wX ?_ | exact wZ)
              refine ReadW.sl_l m rfl Tryz.underlying9 rfl rfl ⟨rfl, by omega⟩ ?_
              (first | refine wX ?_ | exact wZ)
              refine ⟨(i + 1, m, l, ob, cap), ⟨by omega, by omega, by omega, hob, hrun⟩, by show ds.length - (i + 1) < ds.length - i; omega, ?_, ?_⟩
              · (repeat' (first | exact trivial | refine And.intro (by with_reducible rfl) ?_ | (with_reducible exact wkC_refl _) | (with_reducible exact wkCs_refl _) | refine And.intro ?_ ?_))
                all_goals first | rfl | exact av_int (by rw [wrap_i64 (by omega)]; omega)
              · exact ⟨wkE_refl _, wkE_refl _, wkE_refl _, wkH_nil _⟩
          | false =>
            rw [if_neg (show ¬ (d.letter == 64) = true by rw [e64]; decide)] at hrun
            (first | refine wX ?_ | exact wZ)
            refine call1 (number_r d.letter _) ?_
            rw [numB_isStr hdok.1 e120 e64]
            cases hst : isStr d.letter with
            | true =>
              rw [if_pos hst, List.drop_drop] at hrun
              have hcl : a + (cutS d (s.drop a)).2 ≤ s.length := by
                have := cutS_le d (s.drop a)
                rw [List.length_drop] at this
                omega
              (first | refine wX ?_ | exact wZ)
              refine call1 (cut_r d (s.drop a) hdok.2 (by omega) _) ?_
              rw [List.drop_drop]
              (first | refine wX ?_ | exact wZ)
              refine Nd.mk ⟨Nat.le_refl 1, rfl, rfl⟩ ?_
              (conv => whnf)
              refine AppN.grow 2 (itemsC l) (itemC ⟨true, 0, (cutS d (s.drop a)).1⟩) rfl rfl ⟨Nat.le_refl 1, ⟨by show (l.length + 1) * 32 ≤ _; omega, by omega⟩, by show 3 ≠ 0; omega⟩ fun b' cap2 h11 h12 => ?_
              (first | refine wX ?_ | exact wZ)
              refine ⟨(i + 1, a + (cutS d (s.drop a)).2, l ++ [⟨true, 0, (cutS d (s.drop a)).1⟩], some b', cap2), ⟨by omega, hcl, by simp; omega, ⟨fun h => (by cases h), by rw [List.length_append]; exact h11⟩, hrun⟩, by show ds.length - (i + 1) < ds.length - i; omega, ?_, ?_⟩
              · (repeat' (first | exact trivial | refine And.intro (by with_reducible rfl) ?_ | (with_reducible exact wkC_refl _) | (with_reducible exact wkCs_refl _) | refine And.intro ?_ ?_))
                all_goals first | rfl | (rw [List.length_append]; rfl) | exact av_int (by rw [wrap_i64 (by omega)]; omega)
              · exact ⟨wkE_refl _, wkE_refl _, .inl ⟨rfl, rfl, itemsC_snoc _ _, rfl, by rw [List.length_append]; rfl, rfl⟩, wkH_nil _⟩
            | false =>
              rw [if_neg (show ¬ isStr d.letter = true by rw [hst]; decide)] at hrun
              have hpl : isPl d.letter = false := by unfold isPl; rw [e120, e64]; rfl
              have hz := letter_num hdok.1 hst hpl
              (first | refine wX ?_ | exact wZ)
              by_cases hk1 : d.count = -1
              · have hN : numsS d (s.drop a) = allN d (s.length - a + 1) (s.drop a) [] := by unfold numsS; rw [if_pos hk1, List.length_drop]
                have h8 := sz_le8 d.letter
                refine LoopN.intro (Nat × Nat × List Int × List Pack.Item × Option Nat × Nat) (fun ⟨j, at', ns, l', ob', cap'⟩ => at' ≤ s.length ∧ a + j ≤ at' ∧ ns.length = j ∧ l' = l ++ ns.map intI ∧ ((ob' = none → l' = [] ∧ cap' = 0) ∧ l'.length ≤ cap') ∧ allN d (s.length - a + 1 - j) (s.drop at') ns = allN d (s.length - a + 1) (s.drop a) [])
                  (fun ⟨_, at', _, l', ob', cap'⟩ => mkS Tryz.f7.ntmps 0 [(1, .c (.v (.string (bs (s.drop at'))))), (6, .c (.v (.slice (at0 (some db)) ds.length dcap))), (8, .c (.v (.string (bs s)))), (9, .c (.v (.slice (at0 ob') l'.length cap'))), (10, .c (.v (.int .i64 (i : Int)))), (11, .c (.lp 3 0)), (12, .c (.v (.int .i64 d.count)))])
                  (fun ⟨_, at', _, l', ob', cap'⟩ => [.fact fun _ => True, .fact G, itemsR l' ob' cap', .blk 66 [.v (.int .u8 (d.letter.toNat : Int)), .v (.bool d.big), .v (.int .i64 d.count)]]) (fun ⟨_, at', _, _, _, _⟩ => s.length - at') [] rfl
                  (fun _ => rfl) (fun _ => rfl) (fun _ _ => okHB_eq rfl) ⟨(0, a, [], l, ob, cap), ⟨ha, Nat.le_refl _, rfl, by simp, hob, rfl⟩, ?_, ?_⟩ ?_
                · (repeat' (first | exact trivial | refine And.intro (by with_reducible rfl) ?_ | (with_reducible exact wkC_refl _) | (with_reducible exact wkCs_refl _) | refine And.intro ?_ ?_))
                  all_goals rfl
                · exact ⟨wkE_refl _, wkE_refl _, wkE_refl _, wkE_refl _, wkH_nil _⟩
                rintro ⟨j, at', ns, l', ob', cap'⟩ ⟨hat, hja, hns, hl', hob', hgo⟩
                have hns2 : (ns.map intI).length = j := by simp [hns]
                have hlen : l'.length ≤ l.length + 1000000 := by rw [hl', List.length_append]; omega
                have hzt := bs_size (s.drop at')
                have hdt := List.length_drop (l := s) (i := at')
                have hmx : maxI 1 (sz d.letter : Int) = ((max 1 (sz d.letter) : Nat) : Int) := by unfold maxI; split <;> omega
                (first | refine wX ?_ | exact wZ)
                refine brd_ne (fun h7 => ?_) (fun h7 => absurd h7 (by omega))
                (first | refine wX ?_ | exact wZ)
                refine brd_ne (fun h => absurd hk1 h) (fun _ => ?_)
                (first | refine wX ?_ | exact wZ)
                refine call1 (size_r d.letter _) ?_
                (first | refine wX ?_ | exact wZ)
                rw [hmx, hzt, hdt]
                rw [show s.length - a + 1 - j = (s.length - a - j) + 1 by omega, allN_succ] at hgo
                refine brd_dec (fun h3 => ?_) (fun h3 => ?_)
                · rw [if_neg (by rw [hdt]; omega)] at hgo
                  -- one number more: state (r or j, at', ns, l', ob', cap'); refine ⟨(j + 1, at' + k, ns ++ [n], l' ++ [intI n], some b', cap2), ⟨by omega, by omega, by rw [List.length_append, hns]; rfl, hl3, ⟨fun h => (by cases h), by rw [List.length_append]; exact h11⟩, by rw [show s.length - a + 1 - (j + 1) = s.length - a - j by omega, ← hgo, List.drop_drop]⟩, by show s.length - (at' + k) < s.length - at'; omega, ?_, ?_⟩: the next state
                  (first | refine wX ?_ | exact wZ)
                  refine callR (one_r d (s.drop at') hz (by rw [List.length_drop]; omega) _) fun v hv => ?_
                  cases hr : rdNum d (s.drop at') with
                  | error e0 =>
                    rw [hr] at hv hgo
                    obtain ⟨x9, y9, rfl⟩ := hv
                    have he := rdNum_err hr
                    rw [hN, ← hgo] at hrun
                    (first | refine wX ?_ | exact wZ)
                    refine brd_ne (fun _ => ?_) (fun h6 => absurd h6 he)
                    (first | refine wX ?_ | exact wZ)
                    refine fin_v ?_
                    show UnR (unS s ds s []) _ _
                    rw [← hrun]
                    rfl
                  | ok x =>
                    obtain ⟨n, k⟩ := x
                    have hk9 := rdNum_pos hz hr
                    have hk8 := rdNum_le hr
                    rw [hr] at hv hgo
                    obtain rfl := hv
                    rw [List.length_drop] at hk8
                    simp only at hgo hk9 hk8
                    (first | refine wX ?_ | exact wZ)
                    refine Nd.mk ⟨Nat.le_refl 1, rfl, rfl⟩ ?_
                    (conv => whnf)
                    refine AppN.grow 2 (itemsC l') (itemC (intI n)) rfl rfl ⟨Nat.le_refl 1, ⟨by show (l'.length + 1) * 32 ≤ _; omega, by omega⟩, by show 3 ≠ 0; omega⟩ fun b' cap2 h11 h12 => ?_
                    (first | refine wX ?_ | exact wZ)
                    refine ReadW.sl_l k rfl Tryz.underlying9 rfl rfl ⟨rfl, by rw [List.length_drop]; omega⟩ ?_
                    rw [List.drop_drop]
                    (first | refine wX ?_ | exact wZ)
                    have hl3 : l' ++ [intI n] = l ++ (ns ++ [n]).map intI := by rw [hl']; simp
                    refine brd_dec (fun h => absurd h (by omega)) (fun _ => ?_)
                    (first | refine wX ?_ | exact wZ)
                    refine ⟨(j + 1, at' + k, ns ++ [n], l' ++ [intI n], some b', cap2), ⟨by omega, by omega, by rw [List.length_append, hns]; rfl, hl3, ⟨fun h => (by cases h), by rw [List.length_append]; exact h11⟩, by rw [show s.length - a + 1 - (j + 1) = s.length - a - j by omega, ← hgo, List.drop_drop]⟩, by show s.length - (at' + k) < s.length - at'; omega, ?_, ?_⟩
                    · (repeat' (first | exact trivial | refine And.intro (by with_reducible rfl) ?_ | (with_reducible exact wkC_refl _) | (with_reducible exact wkCs_refl _) | refine And.intro ?_ ?_))
                      all_goals first | rfl | (rw [List.length_append]; rfl) | exact av_int (by first | omega | (rw [wrap_i64 (by omega)]; omega))
                    · exact ⟨wkE_refl _, wkE_refl _, .inl ⟨rfl, rfl, itemsC_snoc _ _, rfl, by rw [List.length_append]; rfl, rfl⟩, wkE_refl _, wkH_nil _⟩
                · rw [if_pos (by rw [hdt]; omega)] at hgo
                  rw [hN, ← hgo] at hrun
                  simp only at hrun
                  rw [← hl'] at hrun
                  (first | refine wX ?_ | exact wZ)
                  refine ⟨(i + 1, at', l', ob', cap'), ⟨by omega, hat, by omega, hob', hrun⟩, by show ds.length - (i + 1) < ds.length - i; omega, ?_, ?_⟩
                  · (repeat' (first | exact trivial | refine And.intro (by with_reducible rfl) ?_ | (with_reducible exact wkC_refl _) | (with_reducible exact wkCs_refl _) | refine And.intro ?_ ?_))
                    all_goals first | rfl | exact av_int (by rw [wrap_i64 (by omega)]; omega)
                  · exact ⟨wkE_refl _, wkE_refl _, wkE_refl _, wkH_nil _⟩
              · obtain ⟨T, hT⟩ : ∃ T : Nat, d.count.toNat = T := ⟨_, rfl⟩
                have hT2 : d.count = (T : Int) ∧ T ≤ 1000 := by
                  have := hdok.2
                  unfold CntOk at this
                  omega
                have hcn : cntS d 0 = T := by unfold cntS; rw [if_neg hk, if_neg hk1]; exact hT
                -- so many numbers: T; as the count is spelled: d.count
                have hN : numsS d (s.drop a) = cntN d (T) (s.drop a) [] := by unfold numsS; rw [if_neg hk1, hcn]
                refine LoopN.intro (Nat × Nat × List Int × List Pack.Item × Option Nat × Nat) (fun ⟨r, at', ns, l', ob', cap'⟩ => at' ≤ s.length ∧ ns.length + r = T ∧ l' = l ++ ns.map intI ∧ ((ob' = none → l' = [] ∧ cap' = 0) ∧ l'.length ≤ cap') ∧ cntN d r (s.drop at') ns = cntN d (T) (s.drop a) [])
                  (fun ⟨r, at', _, l', ob', cap'⟩ => mkS Tryz.f7.ntmps 0 [(1, .c (.v (.string (bs (s.drop at'))))), (6, .c (.v (.slice (at0 (some db)) ds.length dcap))), (8, .c (.v (.string (bs s)))), (9, .c (.v (.slice (at0 ob') l'.length cap'))), (10, .c (.v (.int .i64 (i : Int)))), (11, .c (.lp 3 0)), (12, .c (.v (.int .i64 (r : Int))))])
                  (fun ⟨_, at', _, l', ob', cap'⟩ => [.fact fun _ => True, .fact G, itemsR l' ob' cap', .blk 66 [.v (.int .u8 (d.letter.toNat : Int)), .v (.bool d.big), .v (.int .i64 d.count)]]) (fun ⟨r, _, _, _, _, _⟩ => r) [] rfl
                  (fun _ => rfl) (fun _ => rfl) (fun _ _ => okHB_eq rfl) ⟨(T, a, [], l, ob, cap), ⟨ha, by simp, by simp, hob, rfl⟩, ?_, ?_⟩ ?_
                · (repeat' (first | exact trivial | refine And.intro (by with_reducible rfl) ?_ | (with_reducible exact wkC_refl _) | (with_reducible exact wkCs_refl _) | refine And.intro ?_ ?_))
                  all_goals first | rfl | exact av_int (by omega)
                · exact ⟨wkE_refl _, wkE_refl _, wkE_refl _, wkE_refl _, wkH_nil _⟩
                rintro ⟨r, at', ns, l', ob', cap'⟩ ⟨hat, hja, hl', hob', hgo⟩
                have hns2 : (ns.map intI).length = ns.length := by simp
                have hlen : l'.length ≤ l.length + 1000 := by rw [hl', List.length_append]; omega
                (first | refine wX ?_ | exact wZ)
                refine brd_ne (fun h7 => ?_) (fun h7 => ?_)
                · obtain ⟨r, rfl⟩ : ∃ r2, r = r2 + 1 := ⟨r - 1, by omega⟩
                  rw [cntN_succ] at hgo
                  (first | refine wX ?_ | exact wZ)
                  try refine brd_ne (fun _ => ?_) (fun h => absurd h (by omega))
                  -- one number more: state (r or j, at', ns, l', ob', cap'); refine ⟨(r, at' + k, ns ++ [n], l' ++ [intI n], some b', cap2), ⟨by omega, by rw [List.length_append]; show ns.length + 1 + r = _; omega, hl3, ⟨fun h => (by cases h), by rw [List.length_append]; exact h11⟩, by rw [← hgo, List.drop_drop]⟩, by show r < r + 1; omega, ?_, ?_⟩: the next state
                  (first | refine wX ?_ | exact wZ)
                  refine callR (one_r d (s.drop at') hz (by rw [List.length_drop]; omega) _) fun v hv => ?_
                  cases hr : rdNum d (s.drop at') with
                  | error e0 =>
                    rw [hr] at hv hgo
                    obtain ⟨x9, y9, rfl⟩ := hv
                    have he := rdNum_err hr
                    rw [hN, ← hgo] at hrun
                    (first | refine wX ?_ | exact wZ)
                    refine brd_ne (fun _ => ?_) (fun h6 => absurd h6 he)
                    (first | refine wX ?_ | exact wZ)
                    refine fin_v ?_
                    show UnR (unS s ds s []) _ _
                    rw [← hrun]
                    rfl
                  | ok x =>
                    obtain ⟨n, k⟩ := x
                    have hk9 := rdNum_pos hz hr
                    have hk8 := rdNum_le hr
                    rw [hr] at hv hgo
                    obtain rfl := hv
                    rw [List.length_drop] at hk8
                    simp only at hgo hk9 hk8
                    (first | refine wX ?_ | exact wZ)
                    refine Nd.mk ⟨Nat.le_refl 1, rfl, rfl⟩ ?_
                    (conv => whnf)
                    refine AppN.grow 2 (itemsC l') (itemC (intI n)) rfl rfl ⟨Nat.le_refl 1, ⟨by show (l'.length + 1) * 32 ≤ _; omega, by omega⟩, by show 3 ≠ 0; omega⟩ fun b' cap2 h11 h12 => ?_
                    (first | refine wX ?_ | exact wZ)
                    refine ReadW.sl_l k rfl Tryz.underlying9 rfl rfl ⟨rfl, by rw [List.length_drop]; omega⟩ ?_
                    rw [List.drop_drop]
                    (first | refine wX ?_ | exact wZ)
                    have hl3 : l' ++ [intI n] = l ++ (ns ++ [n]).map intI := by rw [hl']; simp
                    refine brd_dec (fun _ => ?_) (fun h => absurd (by omega) h)
                    (first | refine wX ?_ | exact wZ)
                    refine ⟨(r, at' + k, ns ++ [n], l' ++ [intI n], some b', cap2), ⟨by omega, by rw [List.length_append]; show ns.length + 1 + r = _; omega, hl3, ⟨fun h => (by cases h), by rw [List.length_append]; exact h11⟩, by rw [← hgo, List.drop_drop]⟩, by show r < r + 1; omega, ?_, ?_⟩
                    · (repeat' (first | exact trivial | refine And.intro (by with_reducible rfl) ?_ | (with_reducible exact wkC_refl _) | (with_reducible exact wkCs_refl _) | refine And.intro ?_ ?_))
                      all_goals first | rfl | (rw [List.length_append]; rfl) | exact av_int (by first | omega | (rw [wrap_i64 (by omega)]; omega))
                    · exact ⟨wkE_refl _, wkE_refl _, .inl ⟨rfl, rfl, itemsC_snoc _ _, rfl, by rw [List.length_append]; rfl, rfl⟩, wkE_refl _, wkH_nil _⟩
                · have hr0 : r = 0 := by omega
                  subst hr0
                  have hgo2 : cntN d (T) (s.drop a) [] = .ok (ns, s.drop at') := hgo.symm
                  rw [hN, hgo2] at hrun
                  simp only at hrun
                  rw [← hl'] at hrun
                  (first | refine wX ?_ | exact wZ)
                  refine ⟨(i + 1, at', l', ob', cap'), ⟨by omega, hat, by omega, hob', hrun⟩, by show ds.length - (i + 1) < ds.length - i; omega, ?_, ?_⟩
                  · (repeat' (first | exact trivial | refine And.intro (by with_reducible rfl) ?_ | (with_reducible exact wkC_refl _) | (with_reducible exact wkCs_refl _) | refine And.intro ?_ ?_))
                    all_goals first | rfl | exact av_int (by rw [wrap_i64 (by omega)]; omega)
                  · exact ⟨wkE_refl _, wkE_refl _, wkE_refl _, wkH_nil _⟩
    · have hi : i = ds.length := by omega
      subst hi
      rw [List.drop_length] at hrun
      (first | refine wX ?_ | exact wZ)
      refine fin_p (fun w => SlAt (at0 ob) (l.length * 3) (itemsC l) w) ?_ (fun w hw => hw.2.2.1)
      show UnR (unS s ds s []) _ _
      rw [← hrun]
      exact ⟨ob, cap, rfl, fun h => (hob.1 h).1, fun w hw => hw⟩
end Go.Proofs.YtjkchonpnocffaaGreatDoor

/-
  Contract: the same items (law).
-/
namespace Go.Proofs.YtjkchonpnocffaaGreatDoor
open Go.AX Go.RowKit Go.Pack
set_option maxRecDepth 20000

theorem same_c (l : List Pack.Item) (oa ob : Option Nat) (ca cb : Nat) (ha : oa = none → l = []) (hb : ob = none → l = []) (hl : l.length ≤ 1000000000) :
    ∀ H, (∀ w, Facts H w → SlAt (at0 oa) (l.length * 3) (itemsC l) w ∧ SlAt (at0 ob) (l.length * 3) (itemsC l) w) → SpecH Tryz.prog 9 (pvs [.slice (at0 oa) l.length ca, .slice (at0 ob) l.length cb]) H (Ret (.bool true) H) := by
  refine factC hm Tryz.func9 (by kernel_rfl) rfl rfl ?_
  (first | refine wX ?_ | exact wZ)
  refine brd_ne (fun h => absurd rfl h) (fun _ => ?_)
  (first | refine wX ?_ | exact wZ)
  refine loopS Nat (fun i => i ≤ l.length) (fun i => mkS Tryz.f9.ntmps 0 [(0, .c (.v (.slice (at0 oa) l.length ca))), (1, .c (.v (.slice (at0 ob) l.length cb))), (5, .c (.v (.int .i64 (i : Int))))]) (fun i => l.length - i) rfl (fun _ => rfl) 0 (Nat.zero_le _) ?_ ?_
  · (repeat' (first | exact trivial | refine And.intro (by with_reducible rfl) ?_ | (with_reducible exact wkC_refl _) | (with_reducible exact wkCs_refl _) | refine And.intro ?_ ?_))
    all_goals rfl
  intro i hi
  have hF0 : ∀ w, Facts [Ent.fact fun w => SlAt (at0 oa) (l.length * 3) (itemsC l) w ∧ SlAt (at0 ob) (l.length * 3) (itemsC l) w] w → SlAt (at0 oa) (l.length * 3) (itemsC l) w ∧ SlAt (at0 ob) (l.length * 3) (itemsC l) w := fun w hw => hw.1
  (first | refine wX ?_ | exact wZ)
  refine brd_dec (fun h1 => ?_) (fun h1 => ?_)
  · obtain ⟨x, hx⟩ : ∃ x, l[i]? = some x := ⟨_, List.getElem?_eq_getElem (by omega)⟩
    obtain ⟨ga, rfl⟩ : ∃ g, oa = some g := by
      cases oa with
      | none => rw [ha rfl] at hx; cases hx
      | some g => exact ⟨g, rfl⟩
    obtain ⟨gb, rfl⟩ : ∃ g, ob = some g := by
      cases ob with
      | none => rw [hb rfl] at hx; cases hx
      | some g => exact ⟨g, rfl⟩
    (first | refine wX ?_ | exact wZ)
    -- 0: the field, .bool x.isText: its value, 1: which fact
    refine Nd.mk ⟨rfl, by omega, by omega⟩ ?_
    (first | refine wX ?_ | exact wZ)
    refine LdN.fld (.bool x.isText) rfl (fun w hw => (hF0 w hw).1) (by rw [Int.toNat_natCast]; exact itemsC_get l i 0 (by decide) hx) ?_
    (first | refine wX ?_ | exact wZ)
    -- 0: the field, .bool x.isText: its value, 2: which fact
    refine Nd.mk ⟨rfl, by omega, by omega⟩ ?_
    (first | refine wX ?_ | exact wZ)
    refine LdN.fld (.bool x.isText) rfl (fun w hw => (hF0 w hw).2) (by rw [Int.toNat_natCast]; exact itemsC_get l i 0 (by decide) hx) ?_
    (first | refine wX ?_ | exact wZ)
    refine brdF (by cases x.isText <;> rfl) ?_
    (first | refine wX ?_ | exact wZ)
    -- 1: the field, .int .i64 x.int: its value, 1: which fact
    refine Nd.mk ⟨rfl, by omega, by omega⟩ ?_
    (first | refine wX ?_ | exact wZ)
    refine LdN.fld (.int .i64 x.int) rfl (fun w hw => (hF0 w hw).1) (by rw [Int.toNat_natCast]; exact itemsC_get l i 1 (by decide) hx) ?_
    (first | refine wX ?_ | exact wZ)
    -- 1: the field, .int .i64 x.int: its value, 2: which fact
    refine Nd.mk ⟨rfl, by omega, by omega⟩ ?_
    (first | refine wX ?_ | exact wZ)
    refine LdN.fld (.int .i64 x.int) rfl (fun w hw => (hF0 w hw).2) (by rw [Int.toNat_natCast]; exact itemsC_get l i 1 (by decide) hx) ?_
    (first | refine wX ?_ | exact wZ)
    refine brd_ne (fun h => absurd rfl h) (fun _ => ?_)
    (first | refine wX ?_ | exact wZ)
    -- 2: the field, .string (bs x.text): its value, 1: which fact
    refine Nd.mk ⟨rfl, by omega, by omega⟩ ?_
    (first | refine wX ?_ | exact wZ)
    refine LdN.fld (.string (bs x.text)) rfl (fun w hw => (hF0 w hw).1) (by rw [Int.toNat_natCast]; exact itemsC_get l i 2 (by decide) hx) ?_
    (first | refine wX ?_ | exact wZ)
    -- 2: the field, .string (bs x.text): its value, 2: which fact
    refine Nd.mk ⟨rfl, by omega, by omega⟩ ?_
    (first | refine wX ?_ | exact wZ)
    refine LdN.fld (.string (bs x.text)) rfl (fun w hw => (hF0 w hw).2) (by rw [Int.toNat_natCast]; exact itemsC_get l i 2 (by decide) hx) ?_
    (first | refine wX ?_ | exact wZ)
    refine brdF (by simp) ?_
    (first | refine wX ?_ | exact wZ)
    refine ⟨i + 1, by omega, by omega, ?_, by (repeat' (first | exact trivial | exact wkE_refl _ | refine And.intro ?_ ?_))⟩
    (repeat' (first | exact trivial | refine And.intro (by with_reducible rfl) ?_ | (with_reducible exact wkC_refl _) | (with_reducible exact wkCs_refl _) | refine And.intro ?_ ?_))
    all_goals first | rfl | exact av_int (by rw [wrap_i64 (by omega)]; omega)
  · (first | refine wX ?_ | exact wZ)
end Go.Proofs.YtjkchonpnocffaaGreatDoor

/-
  Contract: the bytes of a number that fits (document).
-/
namespace Go.Proofs.YtjkchonpnocffaaGreatDoor
open Go.AX Go.RowKit Go.Pack
set_option maxRecDepth 20000

theorem byte_u (n : Int) (i : Nat) (hi : i ≤ 7) (U : Nat) (hU : (U : Int) = n % 18446744073709551616) : UInt8.ofNat (n / 256 ^ i % 256).toNat = UInt8.ofNat (U / 256 ^ i % 256) := by
  have h : i = 0 ∨ i = 1 ∨ i = 2 ∨ i = 3 ∨ i = 4 ∨ i = 5 ∨ i = 6 ∨ i = 7 := by omega
  congr 1
  rcases h with rfl | rfl | rfl | rfl | rfl | rfl | rfl | rfl <;> simp only [Int.reducePow, Nat.reducePow] <;> omega
theorem wrap_u64_mod (n : Int) : IntKind.u64.wrap n = n % 18446744073709551616 := by
  simp [IntKind.wrap, IntKind.bits, IntKind.signed]
theorem utf_len (n : Nat) : (utf n).length ≤ 4 := by
  unfold utf
  split
  · simp
  split
  · simp
  split <;> simp
def numL (d : Dir) (n : Int) : List UInt8 := if d.letter == 119 then sevens n.toNat else if d.letter == 85 then utf n.toNat else if hi d then (le (sz d.letter) n).reverse else le (sz d.letter) n
theorem bytes_r (d : Dir) (n : Int) (hz : d.letter = 119 ∨ d.letter = 85 ∨ sz d.letter ≠ 0) (hw : d.letter = 119 → 0 ≤ n) (hu : d.letter = 85 → rune n = true) (hb : -9223372036854775808 ≤ n ∧ n < 9223372036854775808) :
    SpecF Tryz.prog 69 [dirV d, .int .i64 n] (fun _ => True) (BytesR (numL d n)) := by
  refine specF hm Tryz.func69 (by kernel_rfl) rfl rfl ?_
  have h119 : ((d.letter.toNat : Int) == 119) = (d.letter == 119) := u8_eq (n := 119) (by decide)
  have h85 : ((d.letter.toNat : Int) == 85) = (d.letter == 85) := u8_eq (n := 85) (by decide)
  have h110 : ((d.letter.toNat : Int) == 110) = (d.letter == 110) := u8_eq (n := 110) (by decide)
  have h78 : ((d.letter.toNat : Int) == 78) = (d.letter == 78) := u8_eq (n := 78) (by decide)
  (first | refine wX ?_ | exact wZ)
  rw [h85]
  cases e85 : d.letter == 85 with
  | true =>
    have hl : d.letter = 85 := by simpa using e85
    have hr := hu hl
    obtain ⟨m, rfl⟩ : ∃ m : Nat, n = (m : Int) := ⟨n.toNat, by simp [rune] at hr; omega⟩
    have hL : numL d (m : Int) = utf m := by unfold numL; rw [hl, if_neg (by decide), if_pos (by decide), Int.toNat_natCast]
    rw [hL]
    (first | refine wX ?_ | exact wZ)
    refine call1 (Bytes_r (m : Int) m rfl hr _) ?_
    (first | refine wX ?_ | exact wZ)
    refine EffW.bytesOf (e := 5) (utf m) rfl Tryz.underlying9 (by kernel_rfl) (by kernel_rfl) rfl (Nat.le_trans (utf_len m) (by decide)) fun lb lc h5 h6 => ?_
    (first | refine wX ?_ | exact wZ)
    exact fin_p (SlAt (some ⟨lb, 0, none⟩) ((utf m).length * 1) (u8s (utf m))) (bytesR_own _ _ _) (fun w hw => hw.2.1)
  | false =>
    (first | refine wX ?_ | exact wZ)
    rw [h119]
    cases e119 : d.letter == 119 with
    | true =>
      have hl : d.letter = 119 := by simpa using e119
      obtain ⟨n, rfl⟩ : ∃ m : Nat, n = (m : Int) := ⟨n.toNat, by have := hw hl; omega⟩
      have hL : numL d (n : Int) = sevens n := by unfold numL; rw [hl, if_pos (by decide), Int.toNat_natCast]
      rw [hL]
      have e1 : (n : Int).tdiv 128 = ((n / 128 : Nat) : Int) := (Int.ofNat_tdiv n 128).symm
      have e2 : (n : Int).tmod 128 = ((n % 128 : Nat) : Int) := (Int.ofNat_tmod n 128).symm
      ((conv => whnf); (repeat ((first | refine BoxN.own ?_ | refine VrN.norm (wrap_i64 (by omega)) ?_ | refine VrN.keep ?_ | refine DrawN.calm (by decide +kernel) ?_ | refine Nd.mk (by decide +kernel) ?_ | refine Nd.mk (by omega) ?_ | (refine Nd.mk ?_ ?_; focus ((repeat' (first | exact trivial | exact wkE_refl _ | refine And.intro ?_ ?_)); done)) | refine RdN.intro _ rfl (by rfl) ?_); (conv => whnf))))
      refine RwN.known [_] rfl fun b0 => ?_
      (first | refine wX ?_ | exact wZ)
      refine LoopN.intro (UInt8 × List UInt8 × Nat × Nat × Nat × Nat) (fun ⟨c, r, m, f, _, _⟩ => (sevR f m).reverse ++ c :: r = sevens n ∧ m < 128 ^ f ∧ r.length + f ≤ 10 ∧ m < 9223372036854775808)
        (fun ⟨_, r, m, _, b, cap⟩ => mkS Tryz.f69.ntmps 0 [(1, .c (.v (.int .i64 (m : Int)))), (5, .c (.v (.slice (some ⟨b, 0, none⟩) (r.length + 1) cap)))])
        (fun ⟨c, r, _, _, b, cap⟩ => [.fact fun _ => True, .blk 66 [.v (.int .u8 (d.letter.toNat : Int)), .v (.bool d.big), .v (.int .i64 d.count)], own (c :: r) b cap]) (fun ⟨_, _, _, f, _, _⟩ => f) [] rfl
        (fun _ => rfl) (fun _ => rfl) (fun _ _ => okHB_eq rfl) ⟨(UInt8.ofNat (n % 128), [], n / 128, 10, b0, 1), ⟨?_, ?_, ?_, ?_⟩, ?_, ?_⟩ ?_
      · simp [sevens]
      · have : n / 128 < 128 ^ 9 := by omega
        omega
      · simp
      · omega
      · (repeat' (first | exact trivial | refine And.intro (by with_reducible rfl) ?_ | (with_reducible exact wkC_refl _) | (with_reducible exact wkCs_refl _) | refine And.intro ?_ ?_))
        all_goals first | rfl | exact av_int (by rw [e1, wrap_i64 (by omega)])
      · exact ⟨wkE_refl _, wkE_refl _, .inl ⟨rfl, rfl, by rw [e2, wrap_u8 (by omega)]; show [_] = [Value.int .u8 ((UInt8.ofNat (n % 128)).toNat : Int)]; rw [ofNat_int (by omega)], rfl, rfl, rfl⟩, wkH_nil _⟩
      rintro ⟨c, r, m, f, b, cap⟩ ⟨hcr, hm1, hlf, hm2⟩
      (first | refine wX ?_ | exact wZ)
      refine brd_dec (fun h => ?_) (fun h => ?_)
      · cases f with
        | zero => omega
        | succ f =>
          have e3 : (m : Int).tdiv 128 = ((m / 128 : Nat) : Int) := (Int.ofNat_tdiv m 128).symm
          have e4 : (m : Int).tmod 128 = ((m % 128 : Nat) : Int) := (Int.ofNat_tmod m 128).symm
          have hs : sevR (f + 1) m = UInt8.ofNat (m % 128 + 128) :: sevR f (m / 128) := by
            conv => lhs; unfold sevR
            rw [if_neg (by omega)]
          rw [hs] at hcr
          ((conv => whnf); (repeat ((first | refine BoxN.own ?_ | refine VrN.norm (wrap_i64 (by omega)) ?_ | refine VrN.keep ?_ | refine DrawN.calm (by decide +kernel) ?_ | refine Nd.mk (by decide +kernel) ?_ | refine Nd.mk (by omega) ?_ | (refine Nd.mk ?_ ?_; focus ((repeat' (first | exact trivial | exact wkE_refl _ | refine And.intro ?_ ?_)); done)) | refine RdN.intro _ rfl (by rfl) ?_); (conv => whnf))))
          refine RwN.known [_] rfl fun b1 => ?_
          (first | refine wX ?_ | exact wZ)
          refine Nd.mk rfl ?_
          (conv => whnf)
          refine ApN.intro (u8s (c :: r)) (by show _ = (r.length + 1) * 1; rw [u8s_len]; simp) (fun u hu => by obtain ⟨c, _, rfl⟩ := List.mem_map.1 hu; rfl) (fun w hw j v hv => hw.2.1.cell hv) ?_
          (conv => whnf)
          refine AppN.swap 2 3 rfl rfl rfl ?_
          (conv => whnf)
          refine AppM.grow 2 [_] (u8s (c :: r)) rfl (plains_vs _) ⟨by omega, ⟨by show (1 + (r.length + 1)) * 1 ≤ _; omega, by omega⟩, by show 1 ≠ 0; omega⟩ fun b' cap' h1 h2 => ?_
          (first | refine wX ?_ | exact wZ)
          refine ⟨(UInt8.ofNat (m % 128 + 128), c :: r, m / 128, f, b', cap'), ⟨by rw [← hcr]; simp, by rw [Nat.pow_succ, Nat.mul_comm] at hm1; exact Nat.div_lt_of_lt_mul hm1, by simp; omega, by omega⟩, by show f < f + 1; omega, ?_, ?_⟩
          · (repeat' (first | exact trivial | refine And.intro (by with_reducible rfl) ?_ | (with_reducible exact wkC_refl _) | (with_reducible exact wkCs_refl _) | refine And.intro ?_ ?_))
            all_goals first | (rw [Nat.add_comm 1 (r.length + 1)]; rfl) | exact av_int (by rw [e3, wrap_i64 (by omega)]) | exact av_int (by rw [e3])
          · exact ⟨wkE_refl _, wkE_refl _, .inl ⟨rfl, rfl, by rw [e4, wrap_i64 (by omega), wrap_u8 (by omega)]; simp [u8s]; omega, rfl, by simp; omega, rfl⟩, wkH_nil _⟩
      · have hm0 : m = 0 := by omega
        subst hm0
        rw [sevR_zero] at hcr
        have hr : sevens n = c :: r := hcr.symm
        (first | refine wX ?_ | exact wZ)
        rw [hr]
        exact fin_p (SlAt (some ⟨b, 0, none⟩) ((c :: r).length * 1) (u8s (c :: r))) (bytesR_own _ _ _) (fun w hw => hw.2.1)
    | false =>
      have hz0 : sz d.letter ≠ 0 := by
        rcases hz with h | h | h
        · rw [h] at e119; exact absurd e119 (by decide)
        · rw [h] at e85; exact absurd e85 (by decide)
        · exact h
      have h8 := sz_le8 d.letter
      have hL : numL d n = if hi d then (le (sz d.letter) n).reverse else le (sz d.letter) n := by unfold numL; rw [if_neg (by rw [e119]; decide), if_neg (by rw [e85]; decide)]
      have hll := le_len (sz d.letter) n
      rw [hL]
      obtain ⟨U, hU⟩ : ∃ U : Nat, (U : Int) = n % 18446744073709551616 := ⟨(n % 18446744073709551616).toNat, by omega⟩
      have hUl : U < 18446744073709551616 := by omega
      (first | refine wX ?_ | exact wZ)
      refine LoopN.intro (Nat × Nat × Option Nat × Nat) (fun ⟨i, u, ob, cap⟩ => i ≤ sz d.letter ∧ u = U / 256 ^ i ∧ ((ob = none → i = 0 ∧ cap = 0) ∧ i ≤ cap))
        (fun ⟨i, u, ob, cap⟩ => mkS Tryz.f69.ntmps 0 [(2, .c (.lp 1 0)), (6, .c (.v (.int .u64 (u : Int)))), (7, .c (.v (.slice (at0 ob) i cap))), (8, .c (.v (.int .i64 (i : Int))))])
        (fun ⟨i, _, ob, cap⟩ => [.fact fun _ => True, .blk 66 [.v (.int .u8 (d.letter.toNat : Int)), .v (.bool d.big), .v (.int .i64 d.count)], .app 5 1 (u8s ((le (sz d.letter) n).take i)) (at0 ob) i cap]) (fun ⟨i, _, _, _⟩ => sz d.letter - i) [.app 0 0 [] none 0 0] rfl
        (fun _ => rfl) (fun _ => rfl) (fun _ _ => okHB_eq rfl) ⟨(0, U, none, 0), ⟨Nat.zero_le _, by simp, ⟨fun _ => ⟨rfl, rfl⟩, Nat.le_refl _⟩⟩, ?_, ?_⟩ ?_
      · (repeat' (first | exact trivial | refine And.intro (by with_reducible rfl) ?_ | (with_reducible exact wkC_refl _) | (with_reducible exact wkCs_refl _) | refine And.intro ?_ ?_))
        all_goals first | rfl | exact av_int (by rw [wrap_u64_mod]; omega)
      · exact ⟨wkE_refl _, wkE_refl _, wkE_nil, wkH_nil _⟩
      rintro ⟨i, u, ob, cap⟩ ⟨hi9, huu, hob⟩
      (first | refine wX ?_ | exact wZ)
      refine call1 (size_r d.letter _) ?_
      (first | refine wX ?_ | exact wZ)
      refine brd_dec (fun h1 => ?_) (fun h1 => ?_)
      · have hlt : ((le (sz d.letter) n).take i).length = i := by rw [List.length_take, hll]; omega
        have hul : u ≤ U := by rw [huu]; exact Nat.div_le_self _ _
        have hg := le_get (sz d.letter) n i (by omega)
        rw [byte_u n i (by omega) U hU, ← huu] at hg
        have hsn : (le (sz d.letter) n).take (i + 1) = (le (sz d.letter) n).take i ++ [UInt8.ofNat (u % 256)] := Pack.take_snoc hg
        have hdq : (u : Int).tdiv 256 = ((u / 256 : Nat) : Int) := (Int.ofNat_tdiv u 256).symm
        have hnx : u / 256 = U / 256 ^ (i + 1) := by rw [huu, Nat.div_div_eq_div_mul, Nat.pow_succ]
        (first | refine wX ?_ | exact wZ)
        refine Nd.mk ⟨Nat.le_refl 1, rfl, rfl⟩ ?_
        (conv => whnf)
        refine AppN.grow 2 (u8s ((le (sz d.letter) n).take i)) [_] rfl rfl ⟨Nat.le_refl 1, ⟨by show (i + 1) * 1 ≤ _; omega, by omega⟩, by show 1 ≠ 0; omega⟩ fun b' cap2 h2 h3 => ?_
        (first | refine wX ?_ | exact wZ)
        refine ⟨(i + 1, u / 256, some b', cap2), ⟨by omega, hnx, ⟨fun h => (by cases h), h2⟩⟩, by show sz d.letter - (i + 1) < sz d.letter - i; omega, ?_, ?_⟩
        · (repeat' (first | exact trivial | refine And.intro (by with_reducible rfl) ?_ | (with_reducible exact wkC_refl _) | (with_reducible exact wkCs_refl _) | refine And.intro ?_ ?_))
          all_goals first | rfl | exact av_int (by rw [hdq, wrap_u64 (by omega)]) | exact av_int (by rw [hdq]) | exact av_int (by first | omega | (rw [wrap_i64 (by omega)]; omega))
        · refine ⟨wkE_refl _, wkE_refl _, .inl ⟨rfl, rfl, ?_, rfl, rfl, rfl⟩, wkH_nil _⟩
          have hwu : IntKind.u8.wrap (u : Int) = ((u % 256 : Nat) : Int) := by simp [IntKind.wrap, IntKind.bits, IntKind.signed]
          rw [hsn, hwu, byteV (n := u % 256) (by omega)]
          simp [u8s]
      · have hie : i = sz d.letter := by omega
        subst hie
        rw [List.take_of_length_le (by omega)]
        obtain ⟨g, rfl⟩ : ∃ g, ob = some g := by
          cases ob with
          | none => exact absurd (hob.1 rfl).1 hz0
          | some g => exact ⟨g, rfl⟩
        obtain ⟨L, hLe⟩ : ∃ L, le (sz d.letter) n = L := ⟨_, rfl⟩
        have hLs : L ≠ [] := fun h => by rw [← hLe, ← List.length_eq_zero_iff, le_len] at h; exact hz0 h
        have hcap : L.length ≤ cap := by rw [hll.symm.trans (congrArg List.length hLe)] at hob; exact hob.2
        rw [hLe]
        rw [hLe] at hll
        rw [← hll]
        (first | refine wX ?_ | exact wZ)
        cases hbg : d.big with
        | true =>
          have hh : hi d = true := by unfold hi; rw [hbg]; rfl
          rw [if_pos hh]
          (first | refine wX ?_ | exact wZ)
          refine callG (turned_r L (some g) cap (fun h => by cases h) (by omega)) [2] rfl ⟨rfl, trivial⟩ rfl ?_
          rintro ⟨ob2, cap2⟩ ⟨hob2, hcap2⟩
          (first | refine wX ?_ | exact wZ)
          exact fin_p (SlAt (at0 ob2) (L.reverse.length * 1) (u8s L.reverse)) ⟨ob2, cap2, rfl, fun h => (hob2 h).1, fun w hw => (by rw [Nat.mul_one] at hw; exact hw)⟩ (fun w hw => hw.2.2.1)
        | false =>
          (first | refine wX ?_ | exact wZ)
          rw [h110]
          cases e110 : d.letter == 110 with
          | true =>
            have hh : hi d = true := by unfold hi; rw [e110]; simp
            rw [if_pos hh]
            (first | refine wX ?_ | exact wZ)
            refine callG (turned_r L (some g) cap (fun h => by cases h) (by omega)) [2] rfl ⟨rfl, trivial⟩ rfl ?_
            rintro ⟨ob2, cap2⟩ ⟨hob2, hcap2⟩
            (first | refine wX ?_ | exact wZ)
            exact fin_p (SlAt (at0 ob2) (L.reverse.length * 1) (u8s L.reverse)) ⟨ob2, cap2, rfl, fun h => (hob2 h).1, fun w hw => (by rw [Nat.mul_one] at hw; exact hw)⟩ (fun w hw => hw.2.2.1)
          | false =>
            (first | refine wX ?_ | exact wZ)
            rw [h78]
            cases e78 : d.letter == 78 with
            | true =>
              have hh : hi d = true := by unfold hi; rw [e78]; simp
              rw [if_pos hh]
              (first | refine wX ?_ | exact wZ)
              refine callG (turned_r L (some g) cap (fun h => by cases h) (by omega)) [2] rfl ⟨rfl, trivial⟩ rfl ?_
              rintro ⟨ob2, cap2⟩ ⟨hob2, hcap2⟩
              (first | refine wX ?_ | exact wZ)
              exact fin_p (SlAt (at0 ob2) (L.reverse.length * 1) (u8s L.reverse)) ⟨ob2, cap2, rfl, fun h => (hob2 h).1, fun w hw => (by rw [Nat.mul_one] at hw; exact hw)⟩ (fun w hw => hw.2.2.1)
            | false =>
              have hh : hi d = false := by unfold hi; rw [hbg, e110, e78]; rfl
              rw [if_neg (by rw [hh]; decide)]
              (first | refine wX ?_ | exact wZ)
              exact fin_p (SlAt (some ⟨g, 0, none⟩) (L.length * 1) (u8s L)) (bytesR_own _ _ _) (fun w hw => hw.2.1)
end Go.Proofs.YtjkchonpnocffaaGreatDoor
