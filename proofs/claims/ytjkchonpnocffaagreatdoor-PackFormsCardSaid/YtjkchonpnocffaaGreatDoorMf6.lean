/-
  Lemmas (C19 C20 C21 C22 C23 C24 R1 P15 D1 D2 D3 D4 C25 C26 C27).
-/
import Derived.Shelf.Unicode.DecodeAny
import Derived.Lay
import Derived.Lib.LaidU8
import Derived.PinnedBridge
import Derived.Test.YtjkchonpnocffaaGreatDoorMf5
/-
  Contract: Size (program).
-/
namespace Go.Proofs.YtjkchonpnocffaaGreatDoor
open Go.AX Go.RowKit Go.Pack
set_option maxRecDepth 20000

theorem Size_c (form : List UInt8) (hs : form.length ≤ 100000) : ∀ H, SpecH Tryz.prog 27 (pvs [.string (bs form)]) H (Ret (sizeV (forms form)) H) := by
  refine pureC hm Tryz.func27 (by kernel_rfl) rfl rfl ?_
  (first | refine wX ?_ | exact wZ)
  refine SpecF.call (read_c form hs) (fun w _ => trivial) fun v G hR => ?_
  cases hf : forms form with
  | none =>
    rw [hf] at hR
    obtain ⟨y, n, cap, rfl⟩ := hR
    (first | refine wX ?_ | exact wZ)
    rfl
  | some ds =>
    rw [hf] at hR
    obtain ⟨db, dcap, rfl, hdb, hG⟩ := hR
    obtain ⟨h50, hok⟩ := forms_ok hf
    (first | refine wX ?_ | exact wZ)
    refine LoopN.intro (Nat × Nat) (fun ⟨i, n⟩ => i ≤ ds.length ∧ sizeS (ds.drop i) n = sizeS ds 0 ∧ n ≤ 8000 * i)
      (fun ⟨i, n⟩ => mkS Tryz.f27.ntmps 0 [(6, .c (.v (.int .i64 (n : Int)))), (17, .c (.v (.slice (at0 db) ds.length dcap))), (18, .c (.v (.int .i64 (ds.length : Int)))), (19, .c (.v (.int .i64 (i : Int))))])
      (fun _ => [.fact G]) (fun ⟨i, _⟩ => ds.length - i) [] rfl
      (fun _ => rfl) (fun _ => rfl) (fun _ _ => okHB_eq rfl) ⟨(0, 0), ⟨Nat.zero_le _, rfl, Nat.zero_le _⟩, ?_, ?_⟩ ?_
    · (repeat' (first | exact trivial | refine And.intro (by with_reducible rfl) ?_ | (with_reducible exact wkC_refl _) | (with_reducible exact wkCs_refl _) | refine And.intro ?_ ?_))
      all_goals rfl
    · exact ⟨wkE_refl _, wkH_nil _⟩
    rintro ⟨i, n⟩ ⟨hid, hrun, hn⟩
    (first | refine wX ?_ | exact wZ)
    refine brd_dec (fun h1 => ?_) (fun h1 => ?_)
    · obtain ⟨d, hd⟩ : ∃ d, ds[i]? = some d := ⟨_, List.getElem?_eq_getElem (by omega)⟩
      have hdok := hok d (List.mem_of_getElem? hd)
      have hc1 : d.count ≤ 1000 := by
        have := hdok.2
        unfold CntOk at this
        omega
      obtain ⟨db, rfl⟩ : ∃ g, db = some g := by
        cases db with
        | none => rw [hdb rfl] at hd; cases hd
        | some g => exact ⟨g, rfl⟩
      have hdr : sizeS (ds.drop i) n = match szStep d n with | none => none | some m => sizeS (ds.drop (i + 1)) m := by
        rw [List.drop_eq_getElem_cons (by omega), (List.getElem?_eq_some_iff.1 hd).2]
        exact sizeS_cons _ _ _
      have hle : ∀ m, szStep d n = some m → m ≤ n + 8000 := fun m hm => szStep_le hc1 hm
      obtain ⟨sz0, hdz⟩ : ∃ x, x = szStep d n := ⟨_, rfl⟩
      rw [← hdz] at hdr hle
      unfold szStep at hdz
      have h64 : ((d.letter.toNat : Int) == 64) = (d.letter == 64) := u8_eq (n := 64) (by decide)
      have h119 : ((d.letter.toNat : Int) == 119) = (d.letter == 119) := u8_eq (n := 119) (by decide)
      have h85 : ((d.letter.toNat : Int) == 85) = (d.letter == 85) := u8_eq (n := 85) (by decide)
      have h72 : ((d.letter.toNat : Int) == 72) = (d.letter == 72) := u8_eq (n := 72) (by decide)
      have h120 : ((d.letter.toNat : Int) == 120) = (d.letter == 120) := u8_eq (n := 120) (by decide)
      (first | refine wX ?_ | exact wZ)
      refine Nd.mk ⟨rfl, by omega, by omega⟩ ?_
      (first | refine wX ?_ | exact wZ)
      refine LdN.agg (dirC d) rfl (fun w hw => hG w hw.1) rfl (fun j hj => by
        rw [Int.toNat_natCast]
        exact dirsC_get ds i j hj hd) ?_
      (first | refine wX ?_ | exact wZ)
      refine brd_eq (fun hk => ?_) (fun hk => ?_)
      · have hk1 : d.count ≠ -1 := by omega
        -- 1: the count; 1: it as an Int
        have hcn : cntS d 0 = 1 := by unfold cntS; first | rw [if_pos hk] | (rw [if_neg hk, if_neg hk1]; exact hT)
        rw [hcn] at hdz
        (first | refine wX ?_ | exact wZ)
        rw [h64]
        cases e64 : d.letter == 64 with
        | true =>
          rw [e64, if_pos rfl] at hdz
          (first | refine wX ?_ | exact wZ)
          -- (max 0 d.count).toNat: the size now; hdz: that it is; by unfold maxI; split <;> omega: the number's spelling
          refine ⟨(i + 1, (max 0 d.count).toNat), ⟨by omega, by rw [← hrun, hdr, hdz], by omega⟩, by show ds.length - (i + 1) < ds.length - i; omega, ?_, ?_⟩
          · (repeat' (first | exact trivial | refine And.intro (by with_reducible rfl) ?_ | (with_reducible exact wkC_refl _) | (with_reducible exact wkCs_refl _) | refine And.intro ?_ ?_))
            all_goals first | rfl | exact av_int (by omega) | exact av_int (by rw [wrap_i64 (by omega)]; omega) | exact av_int (by unfold maxI; split <;> omega)
          · exact ⟨wkE_refl _, wkH_nil _⟩
        | false =>
          rw [e64, if_neg (by decide)] at hdz
          (first | refine wX ?_ | exact wZ)
          try refine brd_eq (fun hk => absurd hk hk1) (fun _ => ?_)
          (first | refine wX ?_ | exact wZ)
          rw [h119]
          cases e119 : d.letter == 119 with
          | true =>
            rw [e119, if_pos (by simp)] at hdz
            (first | refine wX ?_ | exact wZ)
            rw [hdr, hdz] at hrun
            have hr2 : sizeS ds 0 = none := hrun.symm
            rw [show sizeV (some ds) = match sizeS ds 0 with | none => .tuple #[.int .i64 0, .int .i64 1] | some n => .tuple #[.int .i64 (n : Int), .int .i64 0] from rfl, hr2]
          | false =>
            (first | refine wX ?_ | exact wZ)
            rw [h85]
            cases e85 : d.letter == 85 with
            | true =>
              rw [e85, if_pos (by simp)] at hdz
              (first | refine wX ?_ | exact wZ)
              rw [hdr, hdz] at hrun
              have hr2 : sizeS ds 0 = none := hrun.symm
              rw [show sizeV (some ds) = match sizeS ds 0 with | none => .tuple #[.int .i64 0, .int .i64 1] | some n => .tuple #[.int .i64 (n : Int), .int .i64 0] from rfl, hr2]
            | false =>
              rw [e119, e85, if_neg (by simp [hk1])] at hdz
              (first | refine wX ?_ | exact wZ)
              rw [h72]
              cases e72 : d.letter == 72 with
              | true =>
                rw [e72, if_pos rfl] at hdz
                have ht : Int.tdiv (1 + 1) 2 = (((1 + 1) / 2 : Nat) : Int) := by first | exact (Int.ofNat_tdiv (1 + 1) 2).symm | (rw [hTc]; exact (Int.ofNat_tdiv (1 + 1) 2).symm)
                (first | refine wX ?_ | exact wZ)
                -- (n + (1 + 1) / 2): the size now; hdz: that it is; by rw [wrap_i64 (x := 1 + 1) (by omega), ht, wrap_i64 (x := (((1 + 1) / 2 : Nat) : Int)) (by omega), wrap_i64 (by omega)]; omega: the number's spelling
                refine ⟨(i + 1, (n + (1 + 1) / 2)), ⟨by omega, by rw [← hrun, hdr, hdz], by omega⟩, by show ds.length - (i + 1) < ds.length - i; omega, ?_, ?_⟩
                · (repeat' (first | exact trivial | refine And.intro (by with_reducible rfl) ?_ | (with_reducible exact wkC_refl _) | (with_reducible exact wkCs_refl _) | refine And.intro ?_ ?_))
                  all_goals first | rfl | exact av_int (by omega) | exact av_int (by rw [wrap_i64 (by omega)]; omega) | exact av_int (by rw [wrap_i64 (x := 1 + 1) (by omega), ht, wrap_i64 (x := (((1 + 1) / 2 : Nat) : Int)) (by omega), wrap_i64 (by omega)]; omega)
                · exact ⟨wkE_refl _, wkH_nil _⟩
              | false =>
                rw [e72, if_neg (by decide)] at hdz
                (first | refine wX ?_ | exact wZ)
                refine call1 (isString_c d _) ?_
                cases hstr : isStr d.letter with
                | true =>
                  rw [if_pos (by rw [hstr]; rfl)] at hdz
                  (first | refine wX ?_ | exact wZ)
                  -- (n + 1): the size now; hdz: that it is; by rw [wrap_i64 (by omega)]; omega: the number's spelling
                  refine ⟨(i + 1, (n + 1)), ⟨by omega, by rw [← hrun, hdr, hdz], by omega⟩, by show ds.length - (i + 1) < ds.length - i; omega, ?_, ?_⟩
                  · (repeat' (first | exact trivial | refine And.intro (by with_reducible rfl) ?_ | (with_reducible exact wkC_refl _) | (with_reducible exact wkCs_refl _) | refine And.intro ?_ ?_))
                    all_goals first | rfl | exact av_int (by omega) | exact av_int (by rw [wrap_i64 (by omega)]; omega) | exact av_int (by rw [wrap_i64 (by omega)]; omega)
                  · exact ⟨wkE_refl _, wkH_nil _⟩
                | false =>
                  (first | refine wX ?_ | exact wZ)
                  rw [h120]
                  cases e120 : d.letter == 120 with
                  | true =>
                    rw [if_pos (by rw [hstr, e120]; rfl)] at hdz
                    (first | refine wX ?_ | exact wZ)
                    -- (n + 1): the size now; hdz: that it is; by rw [wrap_i64 (by omega)]; omega: the number's spelling
                    refine ⟨(i + 1, (n + 1)), ⟨by omega, by rw [← hrun, hdr, hdz], by omega⟩, by show ds.length - (i + 1) < ds.length - i; omega, ?_, ?_⟩
                    · (repeat' (first | exact trivial | refine And.intro (by with_reducible rfl) ?_ | (with_reducible exact wkC_refl _) | (with_reducible exact wkCs_refl _) | refine And.intro ?_ ?_))
                      all_goals first | rfl | exact av_int (by omega) | exact av_int (by rw [wrap_i64 (by omega)]; omega) | exact av_int (by rw [wrap_i64 (by omega)]; omega)
                    · exact ⟨wkE_refl _, wkH_nil _⟩
                  | false =>
                    rw [if_neg (by rw [hstr, e120]; decide)] at hdz
                    have hm8 : 1 * sz d.letter ≤ 1000 * 8 := Nat.mul_le_mul (by omega) (sz_le8 _)
                    have hmi : 1 * ((sz d.letter : Nat) : Int) = ((1 * sz d.letter : Nat) : Int) := by first | exact (Int.natCast_mul 1 _).symm | (rw [hTc]; exact (Int.natCast_mul 1 _).symm)
                    (first | refine wX ?_ | exact wZ)
                    refine call1 (bytes_c d _) ?_
                    (first | refine wX ?_ | exact wZ)
                    -- (n + 1 * sz d.letter): the size now; hdz: that it is; by rw [hmi, wrap_i64 (x := ((1 * sz d.letter : Nat) : Int)) (by omega), wrap_i64 (by omega)]; omega: the number's spelling
                    refine ⟨(i + 1, (n + 1 * sz d.letter)), ⟨by omega, by rw [← hrun, hdr, hdz], by omega⟩, by show ds.length - (i + 1) < ds.length - i; omega, ?_, ?_⟩
                    · (repeat' (first | exact trivial | refine And.intro (by with_reducible rfl) ?_ | (with_reducible exact wkC_refl _) | (with_reducible exact wkCs_refl _) | refine And.intro ?_ ?_))
                      all_goals first | rfl | exact av_int (by omega) | exact av_int (by rw [wrap_i64 (by omega)]; omega) | exact av_int (by rw [hmi, wrap_i64 (x := ((1 * sz d.letter : Nat) : Int)) (by omega), wrap_i64 (by omega)]; omega)
                    · exact ⟨wkE_refl _, wkH_nil _⟩
      · by_cases hk1 : d.count = -1
        · have hn64 : (d.letter == 64) = false := by
            have := hdok.2
            unfold CntOk at this
            rcases this with h | h | h
            · simpa using h.2.2
            · omega
            · omega
          rw [hn64, if_neg (by decide), if_pos (by rw [hk1]; rfl)] at hdz
          (first | refine wX ?_ | exact wZ)
          rw [h64, hn64, hk1]
          (first | refine wX ?_ | exact wZ)
          rw [hdr, hdz] at hrun
          have hr2 : sizeS ds 0 = none := hrun.symm
          rw [show sizeV (some ds) = match sizeS ds 0 with | none => .tuple #[.int .i64 0, .int .i64 1] | some n => .tuple #[.int .i64 (n : Int), .int .i64 0] from rfl, hr2]
        · obtain ⟨T, hT⟩ : ∃ T : Nat, d.count.toNat = T := ⟨_, rfl⟩
          have hTc : d.count = (T : Int) := by
            have := hdok.2
            unfold CntOk at this
            omega
          -- T: the count; d.count: it as an Int
          have hcn : cntS d 0 = T := by unfold cntS; first | rw [if_pos hk] | (rw [if_neg hk, if_neg hk1]; exact hT)
          rw [hcn] at hdz
          (first | refine wX ?_ | exact wZ)
          rw [h64]
          cases e64 : d.letter == 64 with
          | true =>
            rw [e64, if_pos rfl] at hdz
            (first | refine wX ?_ | exact wZ)
            -- (max 0 d.count).toNat: the size now; hdz: that it is; by unfold maxI; split <;> omega: the number's spelling
            refine ⟨(i + 1, (max 0 d.count).toNat), ⟨by omega, by rw [← hrun, hdr, hdz], by omega⟩, by show ds.length - (i + 1) < ds.length - i; omega, ?_, ?_⟩
            · (repeat' (first | exact trivial | refine And.intro (by with_reducible rfl) ?_ | (with_reducible exact wkC_refl _) | (with_reducible exact wkCs_refl _) | refine And.intro ?_ ?_))
              all_goals first | rfl | exact av_int (by omega) | exact av_int (by rw [wrap_i64 (by omega)]; omega) | exact av_int (by unfold maxI; split <;> omega)
            · exact ⟨wkE_refl _, wkH_nil _⟩
          | false =>
            rw [e64, if_neg (by decide)] at hdz
            (first | refine wX ?_ | exact wZ)
            try refine brd_eq (fun hk => absurd hk hk1) (fun _ => ?_)
            (first | refine wX ?_ | exact wZ)
            rw [h119]
            cases e119 : d.letter == 119 with
            | true =>
              rw [e119, if_pos (by simp)] at hdz
              (first | refine wX ?_ | exact wZ)
              rw [hdr, hdz] at hrun
              have hr2 : sizeS ds 0 = none := hrun.symm
              rw [show sizeV (some ds) = match sizeS ds 0 with | none => .tuple #[.int .i64 0, .int .i64 1] | some n => .tuple #[.int .i64 (n : Int), .int .i64 0] from rfl, hr2]
            | false =>
              (first | refine wX ?_ | exact wZ)
              rw [h85]
              cases e85 : d.letter == 85 with
              | true =>
                rw [e85, if_pos (by simp)] at hdz
                (first | refine wX ?_ | exact wZ)
                rw [hdr, hdz] at hrun
                have hr2 : sizeS ds 0 = none := hrun.symm
                rw [show sizeV (some ds) = match sizeS ds 0 with | none => .tuple #[.int .i64 0, .int .i64 1] | some n => .tuple #[.int .i64 (n : Int), .int .i64 0] from rfl, hr2]
              | false =>
                rw [e119, e85, if_neg (by simp [hk1])] at hdz
                (first | refine wX ?_ | exact wZ)
                rw [h72]
                cases e72 : d.letter == 72 with
                | true =>
                  rw [e72, if_pos rfl] at hdz
                  have ht : Int.tdiv (d.count + 1) 2 = (((T + 1) / 2 : Nat) : Int) := by first | exact (Int.ofNat_tdiv (T + 1) 2).symm | (rw [hTc]; exact (Int.ofNat_tdiv (T + 1) 2).symm)
                  (first | refine wX ?_ | exact wZ)
                  -- (n + (T + 1) / 2): the size now; hdz: that it is; by rw [wrap_i64 (x := d.count + 1) (by omega), ht, wrap_i64 (x := (((T + 1) / 2 : Nat) : Int)) (by omega), wrap_i64 (by omega)]; omega: the number's spelling
                  refine ⟨(i + 1, (n + (T + 1) / 2)), ⟨by omega, by rw [← hrun, hdr, hdz], by omega⟩, by show ds.length - (i + 1) < ds.length - i; omega, ?_, ?_⟩
                  · (repeat' (first | exact trivial | refine And.intro (by with_reducible rfl) ?_ | (with_reducible exact wkC_refl _) | (with_reducible exact wkCs_refl _) | refine And.intro ?_ ?_))
                    all_goals first | rfl | exact av_int (by omega) | exact av_int (by rw [wrap_i64 (by omega)]; omega) | exact av_int (by rw [wrap_i64 (x := d.count + 1) (by omega), ht, wrap_i64 (x := (((T + 1) / 2 : Nat) : Int)) (by omega), wrap_i64 (by omega)]; omega)
                  · exact ⟨wkE_refl _, wkH_nil _⟩
                | false =>
                  rw [e72, if_neg (by decide)] at hdz
                  (first | refine wX ?_ | exact wZ)
                  refine call1 (isString_c d _) ?_
                  cases hstr : isStr d.letter with
                  | true =>
                    rw [if_pos (by rw [hstr]; rfl)] at hdz
                    (first | refine wX ?_ | exact wZ)
                    -- (n + T): the size now; hdz: that it is; by rw [wrap_i64 (by omega)]; omega: the number's spelling
                    refine ⟨(i + 1, (n + T)), ⟨by omega, by rw [← hrun, hdr, hdz], by omega⟩, by show ds.length - (i + 1) < ds.length - i; omega, ?_, ?_⟩
                    · (repeat' (first | exact trivial | refine And.intro (by with_reducible rfl) ?_ | (with_reducible exact wkC_refl _) | (with_reducible exact wkCs_refl _) | refine And.intro ?_ ?_))
                      all_goals first | rfl | exact av_int (by omega) | exact av_int (by rw [wrap_i64 (by omega)]; omega) | exact av_int (by rw [wrap_i64 (by omega)]; omega)
                    · exact ⟨wkE_refl _, wkH_nil _⟩
                  | false =>
                    (first | refine wX ?_ | exact wZ)
                    rw [h120]
                    cases e120 : d.letter == 120 with
                    | true =>
                      rw [if_pos (by rw [hstr, e120]; rfl)] at hdz
                      (first | refine wX ?_ | exact wZ)
                      -- (n + T): the size now; hdz: that it is; by rw [wrap_i64 (by omega)]; omega: the number's spelling
                      refine ⟨(i + 1, (n + T)), ⟨by omega, by rw [← hrun, hdr, hdz], by omega⟩, by show ds.length - (i + 1) < ds.length - i; omega, ?_, ?_⟩
                      · (repeat' (first | exact trivial | refine And.intro (by with_reducible rfl) ?_ | (with_reducible exact wkC_refl _) | (with_reducible exact wkCs_refl _) | refine And.intro ?_ ?_))
                        all_goals first | rfl | exact av_int (by omega) | exact av_int (by rw [wrap_i64 (by omega)]; omega) | exact av_int (by rw [wrap_i64 (by omega)]; omega)
                      · exact ⟨wkE_refl _, wkH_nil _⟩
                    | false =>
                      rw [if_neg (by rw [hstr, e120]; decide)] at hdz
                      have hm8 : T * sz d.letter ≤ 1000 * 8 := Nat.mul_le_mul (by omega) (sz_le8 _)
                      have hmi : d.count * ((sz d.letter : Nat) : Int) = ((T * sz d.letter : Nat) : Int) := by first | exact (Int.natCast_mul T _).symm | (rw [hTc]; exact (Int.natCast_mul T _).symm)
                      (first | refine wX ?_ | exact wZ)
                      refine call1 (bytes_c d _) ?_
                      (first | refine wX ?_ | exact wZ)
                      -- (n + T * sz d.letter): the size now; hdz: that it is; by rw [hmi, wrap_i64 (x := ((T * sz d.letter : Nat) : Int)) (by omega), wrap_i64 (by omega)]; omega: the number's spelling
                      refine ⟨(i + 1, (n + T * sz d.letter)), ⟨by omega, by rw [← hrun, hdr, hdz], by omega⟩, by show ds.length - (i + 1) < ds.length - i; omega, ?_, ?_⟩
                      · (repeat' (first | exact trivial | refine And.intro (by with_reducible rfl) ?_ | (with_reducible exact wkC_refl _) | (with_reducible exact wkCs_refl _) | refine And.intro ?_ ?_))
                        all_goals first | rfl | exact av_int (by omega) | exact av_int (by rw [wrap_i64 (by omega)]; omega) | exact av_int (by rw [hmi, wrap_i64 (x := ((T * sz d.letter : Nat) : Int)) (by omega), wrap_i64 (by omega)]; omega)
                      · exact ⟨wkE_refl _, wkH_nil _⟩
    · have hi : i = ds.length := by omega
      subst hi
      rw [List.drop_length] at hrun
      have hr2 : sizeS ds 0 = some n := hrun.symm
      (first | refine wX ?_ | exact wZ)
      rw [show sizeV (some ds) = match sizeS ds 0 with | none => .tuple #[.int .i64 0, .int .i64 1] | some n => .tuple #[.int .i64 (n : Int), .int .i64 0] from rfl, hr2]
end Go.Proofs.YtjkchonpnocffaaGreatDoor

/-
  Contracts: how many bytes are left, bytes are taken (program).
-/
namespace Go.Proofs.YtjkchonpnocffaaGreatDoor
open Go.AX Go.RowKit Go.Pack
set_option maxRecDepth 20000

/-- An unpacker's cells. -/
def unC (s : List UInt8) (a : Nat) (out : Option Nat) (len cap : Nat) : List Value := [.string (bs s), .int .i64 (a : Int), .slice (at0 out) len cap]
def unE (ub : Nat) (s : List UInt8) (a : Nat) (out : Option Nat) (len cap : Nat) : Ent := .app 56 3 (unC s a out len cap) (some ⟨ub, 0, none⟩) 1 1
def UnF (ub : Nat) (s : List UInt8) (a : Nat) (out : Option Nat) (len cap : Nat) (w : World) : Prop := SlAt (some ⟨ub, 0, none⟩) 3 (unC s a out len cap) w
theorem left_c (ub : Nat) (s : List UInt8) (a : Nat) (out : Option Nat) (len cap : Nat) (ha : a ≤ s.length) (hs : s.length ≤ 1000000) :
    ∀ H, (∀ w, Facts H w → UnF ub s a out len cap w) → SpecH Tryz.prog 14 (pvs [.pointer (some ⟨ub, 0, none⟩)]) H (Ret (.int .i64 ((s.length - a : Nat) : Int)) H) := by
  refine factC hm Tryz.func14 (by kernel_rfl) rfl rfl ?_
  have hz := bs_size s
  (first | refine wX ?_ | exact wZ)
  refine LdN.one (a := some ⟨ub, 0, none⟩) (q := 0) (.string (bs s)) rfl (fun w hw => hw.1) rfl ?_
  (first | refine wX ?_ | exact wZ)
  refine LdN.one (a := some ⟨ub, 0, none⟩) (q := 1) (.int .i64 (a : Int)) rfl (fun w hw => hw.1) rfl ?_
  (first | refine wX ?_ | exact wZ)
  rw [Int.ofNat_sub ha, hz]
theorem cut_c (ub : Nat) (s : List UInt8) (a n : Nat) (out : Option Nat) (len cap : Nat) (ha : a + n ≤ s.length) (hs : s.length ≤ 1000000) :
    SpecH Tryz.prog 38 [.c (.v (.pointer (some ⟨ub, 0, none⟩))), .c (.v (.int .i64 (n : Int)))] [unE ub s a out len cap]
      (RetG (ι := Unit) (fun _ => True) (fun _ => .string (bs ((s.drop a).take n))) fun _ => [unE ub s (a + n) out len cap]) := by
  refine ownC hm Tryz.func38 (by kernel_rfl) rfl rfl (fun _ _ => okHB_eq rfl) (fun _ _ => Nat.le_refl _) ?_
  have hz := bs_size s
  (first | refine wX ?_ | exact wZ)
  refine LdN.one (a := some ⟨ub, 0, none⟩) (q := 0) (.string (bs s)) rfl (fun w hw => hw.1) rfl ?_
  (first | refine wX ?_ | exact wZ)
  refine LdN.one (a := some ⟨ub, 0, none⟩) (q := 1) (.int .i64 (a : Int)) rfl (fun w hw => hw.1) rfl ?_
  (first | refine wX ?_ | exact wZ)
  refine LdN.one (a := some ⟨ub, 0, none⟩) (q := 1) (.int .i64 (a : Int)) rfl (fun w hw => hw.1) rfl ?_
  (first | refine wX ?_ | exact wZ)
  refine ReadW.sl_lh a (a + n) rfl Tryz.underlying9 rfl rfl rfl ⟨rfl, by rw [wrap_i64 (by omega)]; omega, by omega, ha⟩ ?_
  (first | refine wX ?_ | exact wZ)
  refine LdN.one (a := some ⟨ub, 0, none⟩) (q := 1) (.int .i64 (a : Int)) rfl (fun w hw => hw.1) rfl ?_
  (first | refine wX ?_ | exact wZ)
  refine EffW.appTo (i := 0) (q := 1) (ys := [_]) (unC s (a + n) out len cap) 3 rfl rfl rfl rfl rfl rfl rfl (Nat.le_of_ble_eq_true rfl) (by
    show [_, Value.int .i64 _, _] = [_, Value.int .i64 _, _]
    rw [wrap_i64 (by omega)]
    rfl) rfl ?_
  (first | refine wX ?_ | exact wZ)
  refine ⟨(), trivial, ?_, wkE_refl _, wkH_nil _⟩
  rw [List.take_drop]
end Go.Proofs.YtjkchonpnocffaaGreatDoor

/-
  Contract: a number in groups of 7 bits is read (program).
-/
namespace Go.Proofs.YtjkchonpnocffaaGreatDoor
open Go.AX Go.RowKit Go.Pack
set_option maxRecDepth 20000

/-- What a reader of numbers gives: the number, the error, where it stands. -/
def NumOk (r : Except Int (Int × Nat)) (a len : Nat) (i : Int × Int × Nat) : Prop := match r with
  | .ok (n, k) => i = (n, 0, a + k) ∧ a + k ≤ len
  | .error e => i.1 = 0 ∧ i.2.1 = e ∧ i.2.2 ≤ len
def numV (i : Int × Int × Nat) : Value := .tuple #[.int .i64 i.1, .int .i64 i.2.1]
theorem lowF : ∀ y : Fin 256, IntKind.u8.wrap ((BitVec.ofInt 8 (y.val : Int) &&& BitVec.ofInt 8 127).toNat : Int) = ((y.val % 128 : Nat) : Int) := by decide +kernel
theorem low7 (c : UInt8) : IntKind.u8.wrap ((BitVec.ofInt IntKind.u8.bits (c.toNat : Int) &&& BitVec.ofInt IntKind.u8.bits 127).toNat : Int) = ((c.toNat % 128 : Nat) : Int) := lowF ⟨c.toNat, UInt8.toNat_lt c⟩
theorem grp_cons (f n i : Nat) (c : UInt8) (r : List UInt8) : grp (f + 1) n i (c :: r) = if i = 0 ∧ c = 128 then .error 5 else if c < 128 then .ok (n * 128 + c.toNat % 128, i + 1) else grp f (n * 128 + c.toNat % 128) (i + 1) r := rfl
theorem group_c (ub : Nat) (s : List UInt8) (a : Nat) (out : Option Nat) (len cap : Nat) (ha : a ≤ s.length) (hs : s.length ≤ 1000000) :
    SpecH Tryz.prog 61 [.c (.v (.pointer (some ⟨ub, 0, none⟩)))] [unE ub s a out len cap]
      (RetG (NumOk (grp 9 0 0 (s.drop a)) a s.length) numV fun i => [unE ub s i.2.2 out len cap]) := by
  refine ownC hm Tryz.func61 (by kernel_rfl) rfl rfl (fun _ _ => okHB_eq rfl) (fun _ _ => Nat.le_refl _) ?_
  (first | refine wX ?_ | exact wZ)
  refine LoopN.intro (Nat × Nat) (fun ⟨i, n⟩ => i ≤ 9 ∧ n < 128 ^ i ∧ a + i ≤ s.length ∧ grp (9 - i) n i (s.drop (a + i)) = grp 9 0 0 (s.drop a))
    (fun ⟨i, n⟩ => mkS Tryz.f61.ntmps 0 [(0, .c (.v (.pointer (some ⟨ub, 0, none⟩)))), (4, .c (.v (.int .i64 (n : Int)))), (5, .c (.v (.int .i64 (i : Int))))])
    (fun ⟨i, _⟩ => [unE ub s (a + i) out len cap]) (fun ⟨i, _⟩ => 10 - i) [] rfl
    (fun _ => rfl) (fun _ => rfl) (fun _ _ => okHB_eq rfl) ⟨(0, 0), ⟨Nat.zero_le _, by decide, ha, rfl⟩, ?_, ?_⟩ ?_
  · (repeat' (first | exact trivial | refine And.intro (by with_reducible rfl) ?_ | (with_reducible exact wkC_refl _) | (with_reducible exact wkCs_refl _) | refine And.intro ?_ ?_))
    all_goals rfl
  · exact ⟨wkE_refl _, wkH_nil _⟩
  rintro ⟨i, n⟩ ⟨hi, hn, hai, hg⟩
  (first | refine wX ?_ | exact wZ)
  refine call1 (left_c ub s (a + i) out len cap hai hs _ (fun w hw => hw.1)) ?_
  (first | refine wX ?_ | exact wZ)
  cases hd : s.drop (a + i) with
  | nil =>
    have hl := drop_end hd hai
    rw [hd] at hg
    have hg2 : grp 9 0 0 (s.drop a) = .error 14 := by rw [← hg]; cases (9 - i) <;> rfl
    refine brd_eq (fun h1 => ?_) (fun h1 => absurd (by omega) h1)
    (first | refine wX ?_ | exact wZ)
    exact ⟨(0, 14, a + i), by rw [hg2]; exact ⟨rfl, rfl, hai⟩, rfl, wkE_refl _, wkH_nil _⟩
  | cons c r =>
    obtain ⟨hb, hlt, hdr, hln⟩ := drop_at hd
    have hbi : byteAt (bs s) (Int.toNat ((a + i : Nat) : Int)) = (c.toNat : Int) := by rw [Int.toNat_natCast]; exact hb
    have hzs := bs_size s
    have h128 : ((c.toNat : Int) == 128) = (c == 128) := u8_eq (n := 128) (by decide)
    rw [hd] at hg
    refine brd_eq (fun h1 => absurd h1 (by omega)) (fun h1 => ?_)
    (first | refine wX ?_ | exact wZ)
    refine brd_eq (fun h9 => ?_) (fun h9 => ?_)
    · have hg2 : grp 9 0 0 (s.drop a) = .error 5 := by rw [← hg, show 9 - i = 0 by omega]; rfl
      (first | refine wX ?_ | exact wZ)
      exact ⟨(0, 5, a + i), by rw [hg2]; exact ⟨rfl, rfl, hai⟩, rfl, wkE_refl _, wkH_nil _⟩
    · obtain ⟨f, hf⟩ : ∃ f, 9 - i = f + 1 := ⟨8 - i, by omega⟩
      rw [hf, grp_cons] at hg
      have h56 : n < 72057594037927936 := Nat.lt_of_lt_of_le hn (Nat.pow_le_pow_right (by decide) (show i ≤ 8 by omega))
      (first | refine wX ?_ | exact wZ)
      refine brd_eq (fun h0 => ?_) (fun h0 => ?_)
      · (first | refine wX ?_ | exact wZ)
        refine LdN.one (a := some ⟨ub, 0, none⟩) (q := 0) (.string (bs s)) rfl (fun w hw => hw.1) rfl ?_
        (first | refine wX ?_ | exact wZ)
        refine LdN.one (a := some ⟨ub, 0, none⟩) (q := 1) (.int .i64 ((a + i : Nat) : Int)) rfl (fun w hw => hw.1) rfl ?_
        (first | refine wX ?_ | exact wZ)
        rw [hbi, h128]
        cases hc : c == 128 with
        | true =>
          have hg2 : grp 9 0 0 (s.drop a) = .error 5 := by rw [← hg, if_pos ⟨by omega, by simpa using hc⟩]
          (first | refine wX ?_ | exact wZ)
          exact ⟨(0, 5, a + i), by rw [hg2]; exact ⟨rfl, rfl, hai⟩, rfl, wkE_refl _, wkH_nil _⟩
        | false =>
          rw [if_neg (fun h => by rw [h.2] at hc; cases hc)] at hg
          (first | refine wX ?_ | exact wZ)
          refine callG (cut_c ub s (a + i) 1 out len cap (by omega) hs) [0] rfl ⟨rfl, trivial⟩ rfl fun _ _ => ?_
          rw [hd, show List.take 1 (c :: r) = [c] from rfl]
          have hb0 : byteAt (bs [c]) 0 = (c.toNat : Int) := rfl
          have hz1 : (bs [c]).size = 1 := rfl
          have hb1 : byteAt (bs [c]) (Int.toNat 0) = (c.toNat : Int) := rfl
          have hV : IntKind.i64.wrap (IntKind.i64.wrap ((n : Int) * 2 ^ min (Int.toNat 7) IntKind.i64.bits) + IntKind.i64.wrap (IntKind.u8.wrap ((BitVec.ofInt IntKind.u8.bits (byteAt (bs [c]) (Int.toNat 0)) &&& BitVec.ofInt IntKind.u8.bits 127).toNat : Int))) = ((n * 128 + c.toNat % 128 : Nat) : Int) := by
            rw [hb1, low7, show (2 : Int) ^ min (Int.toNat 7) IntKind.i64.bits = 128 from rfl, wrap_i64 (x := (n : Int) * 128) (by omega), wrap_i64 (x := ((c.toNat % 128 : Nat) : Int)) (by omega), wrap_i64 (by omega)]
            omega
          have hai1 : a + i + 1 ≤ s.length := by omega
          (first | refine wX ?_ | exact wZ)
          rw [hV, hb1]
          refine brd_dec (fun h2 => ?_) (fun h2 => ?_)
          · have hc2 : c < 128 := UInt8.lt_iff_toNat_lt.2 (by show c.toNat < 128; omega)
            rw [if_pos hc2] at hg
            (first | refine wX ?_ | exact wZ)
            exact ⟨(((n * 128 + c.toNat % 128 : Nat) : Int), 0, a + i + 1), by rw [← hg]; exact ⟨by rw [Nat.add_assoc]; rfl, by omega⟩, rfl, wkE_refl _, wkH_nil _⟩
          · have hc2 : ¬ c < 128 := fun h => h2 (by have h3 : c.toNat < 128 := UInt8.lt_iff_toNat_lt.1 h; omega)
            rw [if_neg hc2, ← hdr] at hg
            (first | refine wX ?_ | exact wZ)
            refine ⟨(i + 1, n * 128 + c.toNat % 128), ⟨by omega, by rw [Nat.pow_succ]; omega, by omega, by rw [show 9 - (i + 1) = f by omega]; exact hg⟩, by show 10 - (i + 1) < 10 - i; omega, ?_, ?_⟩
            · (repeat' (first | exact trivial | refine And.intro (by with_reducible rfl) ?_ | (with_reducible exact wkC_refl _) | (with_reducible exact wkCs_refl _) | refine And.intro ?_ ?_))
              all_goals first | rfl | exact av_int (by omega) | exact av_int (by rw [wrap_i64 (by omega)]; omega)
            · exact ⟨wkE_refl _, wkH_nil _⟩
      · rw [if_neg (fun h => h0 (by omega))] at hg
        (first | refine wX ?_ | exact wZ)
        refine callG (cut_c ub s (a + i) 1 out len cap (by omega) hs) [0] rfl ⟨rfl, trivial⟩ rfl fun _ _ => ?_
        rw [hd, show List.take 1 (c :: r) = [c] from rfl]
        have hb0 : byteAt (bs [c]) 0 = (c.toNat : Int) := rfl
        have hz1 : (bs [c]).size = 1 := rfl
        have hb1 : byteAt (bs [c]) (Int.toNat 0) = (c.toNat : Int) := rfl
        have hV : IntKind.i64.wrap (IntKind.i64.wrap ((n : Int) * 2 ^ min (Int.toNat 7) IntKind.i64.bits) + IntKind.i64.wrap (IntKind.u8.wrap ((BitVec.ofInt IntKind.u8.bits (byteAt (bs [c]) (Int.toNat 0)) &&& BitVec.ofInt IntKind.u8.bits 127).toNat : Int))) = ((n * 128 + c.toNat % 128 : Nat) : Int) := by
          rw [hb1, low7, show (2 : Int) ^ min (Int.toNat 7) IntKind.i64.bits = 128 from rfl, wrap_i64 (x := (n : Int) * 128) (by omega), wrap_i64 (x := ((c.toNat % 128 : Nat) : Int)) (by omega), wrap_i64 (by omega)]
          omega
        have hai1 : a + i + 1 ≤ s.length := by omega
        (first | refine wX ?_ | exact wZ)
        rw [hV, hb1]
        refine brd_dec (fun h2 => ?_) (fun h2 => ?_)
        · have hc2 : c < 128 := UInt8.lt_iff_toNat_lt.2 (by show c.toNat < 128; omega)
          rw [if_pos hc2] at hg
          (first | refine wX ?_ | exact wZ)
          exact ⟨(((n * 128 + c.toNat % 128 : Nat) : Int), 0, a + i + 1), by rw [← hg]; exact ⟨by rw [Nat.add_assoc]; rfl, by omega⟩, rfl, wkE_refl _, wkH_nil _⟩
        · have hc2 : ¬ c < 128 := fun h => h2 (by have h3 : c.toNat < 128 := UInt8.lt_iff_toNat_lt.1 h; omega)
          rw [if_neg hc2, ← hdr] at hg
          (first | refine wX ?_ | exact wZ)
          refine ⟨(i + 1, n * 128 + c.toNat % 128), ⟨by omega, by rw [Nat.pow_succ]; omega, by omega, by rw [show 9 - (i + 1) = f by omega]; exact hg⟩, by show 10 - (i + 1) < 10 - i; omega, ?_, ?_⟩
          · (repeat' (first | exact trivial | refine And.intro (by with_reducible rfl) ?_ | (with_reducible exact wkC_refl _) | (with_reducible exact wkCs_refl _) | refine And.intro ?_ ?_))
            all_goals first | rfl | exact av_int (by omega) | exact av_int (by rw [wrap_i64 (by omega)]; omega)
          · exact ⟨wkE_refl _, wkH_nil _⟩
end Go.Proofs.YtjkchonpnocffaaGreatDoor

/-
  Contract: a number of a fixed size is read (program).
-/
namespace Go.Proofs.YtjkchonpnocffaaGreatDoor
open Go.AX Go.RowKit Go.Pack
set_option maxRecDepth 20000

theorem or8 (n c : Nat) (hn : n < 72057594037927936) (hc : c < 256) : ((BitVec.ofInt 64 ((n * 256 : Nat) : Int) ||| BitVec.ofInt 64 (c : Int)).toNat : Int) = ((n * 256 + c : Nat) : Int) := by
  rw [BitVec.toNat_or, BitVec.toNat_ofInt, BitVec.toNat_ofInt]
  have e1 : (((n * 256 : Nat) : Int) % ((2 ^ 64 : Nat) : Int)).toNat = n * 256 := by omega
  have e2 : ((c : Int) % ((2 ^ 64 : Nat) : Int)).toNat = c := by omega
  rw [e1, e2]
  have := Nat.shiftLeft_add_eq_or_of_lt (b := c) (i := 8) (by omega) n
  rw [Nat.shiftLeft_eq] at this
  rw [show n * 256 = n * 2 ^ 8 from rfl, ← this]
theorem wrapU (x : Int) : IntKind.u64.wrap x = x % 18446744073709551616 := by simp [IntKind.wrap, IntKind.bits, IntKind.signed]
theorem step8 (n c : Nat) (hn : n < 72057594037927936) (hc : c < 256) : IntKind.u64.wrap ((BitVec.ofInt IntKind.u64.bits (IntKind.u64.wrap ((n : Int) * 2 ^ min (Int.toNat 8) IntKind.u64.bits)) ||| BitVec.ofInt IntKind.u64.bits (IntKind.u64.wrap (c : Int))).toNat : Int) = ((n * 256 + c : Nat) : Int) := by
  rw [show (2 : Int) ^ min (Int.toNat 8) IntKind.u64.bits = 256 from rfl, wrapU ((n : Int) * 256), wrapU (c : Int), show (n : Int) * 256 % 18446744073709551616 = ((n * 256 : Nat) : Int) by omega, show (c : Int) % 18446744073709551616 = (c : Int) by omega]
  show IntKind.u64.wrap ((BitVec.ofInt 64 ((n * 256 : Nat) : Int) ||| BitVec.ofInt 64 (c : Int)).toNat : Int) = _
  rw [or8 n c hn hc, wrapU]
  omega
theorem sz4 {c : UInt8} (h : sz c ≠ 0) : sz c = 1 ∨ sz c = 2 ∨ sz c = 4 ∨ sz c = 8 := by
  unfold sz at *
  split
  · exact .inl rfl
  split
  · exact .inr (.inl rfl)
  split
  · exact .inr (.inr (.inl rfl))
  split
  · exact .inr (.inr (.inr rfl))
  · rename_i h1 h2 h3 h4
    rw [if_neg h1, if_neg h2, if_neg h3, if_neg h4] at h
    exact absurd rfl h
theorem sgn1 (n : Nat) (hn : n < 256) : (IntKind.i64.wrap (IntKind.u64.wrap ((n : Int) * 2 ^ min (IntKind.i64.wrap (64 - IntKind.i64.wrap (8 * ((1 : Nat) : Int)))).toNat IntKind.u64.bits))).fdiv (2 ^ min (IntKind.i64.wrap (64 - IntKind.i64.wrap (8 * ((1 : Nat) : Int)))).toNat IntKind.i64.bits) = if n < 128 then (n : Int) else (n : Int) - 256 := by
  have hpu : (2 : Int) ^ min (IntKind.i64.wrap (64 - IntKind.i64.wrap (8 * ((1 : Nat) : Int)))).toNat IntKind.u64.bits = 72057594037927936 := by decide +kernel
  have hpi : (2 : Int) ^ min (IntKind.i64.wrap (64 - IntKind.i64.wrap (8 * ((1 : Nat) : Int)))).toNat IntKind.i64.bits = 72057594037927936 := by decide +kernel
  rw [hpu, hpi, wrap_u64_eq, Int.fdiv_eq_ediv_of_nonneg _ (by decide)]
  by_cases h : n < 128
  · rw [if_pos h, show (n : Int) * 72057594037927936 % 18446744073709551616 = (n : Int) * 72057594037927936 by omega, wrap_i64 (by omega)]
    omega
  · rw [if_neg h, show (n : Int) * 72057594037927936 % 18446744073709551616 = (n : Int) * 72057594037927936 by omega, wrap_eq, if_pos (by omega)]
    omega
theorem sgn2 (n : Nat) (hn : n < 65536) : (IntKind.i64.wrap (IntKind.u64.wrap ((n : Int) * 2 ^ min (IntKind.i64.wrap (64 - IntKind.i64.wrap (8 * ((2 : Nat) : Int)))).toNat IntKind.u64.bits))).fdiv (2 ^ min (IntKind.i64.wrap (64 - IntKind.i64.wrap (8 * ((2 : Nat) : Int)))).toNat IntKind.i64.bits) = if n < 32768 then (n : Int) else (n : Int) - 65536 := by
  have hpu : (2 : Int) ^ min (IntKind.i64.wrap (64 - IntKind.i64.wrap (8 * ((2 : Nat) : Int)))).toNat IntKind.u64.bits = 281474976710656 := by decide +kernel
  have hpi : (2 : Int) ^ min (IntKind.i64.wrap (64 - IntKind.i64.wrap (8 * ((2 : Nat) : Int)))).toNat IntKind.i64.bits = 281474976710656 := by decide +kernel
  rw [hpu, hpi, wrap_u64_eq, Int.fdiv_eq_ediv_of_nonneg _ (by decide)]
  by_cases h : n < 32768
  · rw [if_pos h, show (n : Int) * 281474976710656 % 18446744073709551616 = (n : Int) * 281474976710656 by omega, wrap_i64 (by omega)]
    omega
  · rw [if_neg h, show (n : Int) * 281474976710656 % 18446744073709551616 = (n : Int) * 281474976710656 by omega, wrap_eq, if_pos (by omega)]
    omega
theorem sgn4 (n : Nat) (hn : n < 4294967296) : (IntKind.i64.wrap (IntKind.u64.wrap ((n : Int) * 2 ^ min (IntKind.i64.wrap (64 - IntKind.i64.wrap (8 * ((4 : Nat) : Int)))).toNat IntKind.u64.bits))).fdiv (2 ^ min (IntKind.i64.wrap (64 - IntKind.i64.wrap (8 * ((4 : Nat) : Int)))).toNat IntKind.i64.bits) = if n < 2147483648 then (n : Int) else (n : Int) - 4294967296 := by
  have hpu : (2 : Int) ^ min (IntKind.i64.wrap (64 - IntKind.i64.wrap (8 * ((4 : Nat) : Int)))).toNat IntKind.u64.bits = 4294967296 := by decide +kernel
  have hpi : (2 : Int) ^ min (IntKind.i64.wrap (64 - IntKind.i64.wrap (8 * ((4 : Nat) : Int)))).toNat IntKind.i64.bits = 4294967296 := by decide +kernel
  rw [hpu, hpi, wrap_u64_eq, Int.fdiv_eq_ediv_of_nonneg _ (by decide)]
  by_cases h : n < 2147483648
  · rw [if_pos h, show (n : Int) * 4294967296 % 18446744073709551616 = (n : Int) * 4294967296 by omega, wrap_i64 (by omega)]
    omega
  · rw [if_neg h, show (n : Int) * 4294967296 % 18446744073709551616 = (n : Int) * 4294967296 by omega, wrap_eq, if_pos (by omega)]
    omega
theorem sgn8 (n : Nat) (hn : n < 18446744073709551616) : (IntKind.i64.wrap (IntKind.u64.wrap ((n : Int) * 2 ^ min (IntKind.i64.wrap (64 - IntKind.i64.wrap (8 * ((8 : Nat) : Int)))).toNat IntKind.u64.bits))).fdiv (2 ^ min (IntKind.i64.wrap (64 - IntKind.i64.wrap (8 * ((8 : Nat) : Int)))).toNat IntKind.i64.bits) = if n < 9223372036854775808 then (n : Int) else (n : Int) - 18446744073709551616 := by
  have hpu : (2 : Int) ^ min (IntKind.i64.wrap (64 - IntKind.i64.wrap (8 * ((8 : Nat) : Int)))).toNat IntKind.u64.bits = 1 := by decide +kernel
  have hpi : (2 : Int) ^ min (IntKind.i64.wrap (64 - IntKind.i64.wrap (8 * ((8 : Nat) : Int)))).toNat IntKind.i64.bits = 1 := by decide +kernel
  rw [hpu, hpi, wrap_u64_eq, Int.fdiv_eq_ediv_of_nonneg _ (by decide)]
  by_cases h : n < 9223372036854775808
  · rw [if_pos h, show (n : Int) * 1 % 18446744073709551616 = (n : Int) * 1 by omega, wrap_i64 (by omega)]
    omega
  · rw [if_neg h, show (n : Int) * 1 % 18446744073709551616 = (n : Int) * 1 by omega, wrap_eq, if_pos (by omega)]
    omega
theorem beN_snoc (l : List UInt8) (c : UInt8) : beN (l ++ [c]) = beN l * 256 + c.toNat := by simp [beN]
theorem fold_lt : ∀ (l : List UInt8) (n : Nat), l.foldl (fun n c => n * 256 + c.toNat) n < (n + 1) * 256 ^ l.length
  | [], n => by simp
  | c :: l, n => by
    have h := fold_lt l (n * 256 + c.toNat)
    have hc := UInt8.toNat_lt c
    have h2 : (n * 256 + c.toNat + 1) * 256 ^ l.length ≤ (n + 1) * 256 * 256 ^ l.length := Nat.mul_le_mul_right _ (by omega)
    show List.foldl _ (n * 256 + c.toNat) l < (n + 1) * 256 ^ (l.length + 1)
    rw [Nat.pow_succ, Nat.mul_comm (256 ^ l.length) 256, ← Nat.mul_assoc]
    omega
theorem beN_lt (l : List UInt8) : beN l < 256 ^ l.length := by
  have h := fold_lt l 0
  rw [Nat.zero_add, Nat.one_mul] at h
  exact h
theorem fixed_c (d : Dir) (ub : Nat) (s : List UInt8) (a : Nat) (out : Option Nat) (len cap : Nat) (hz0 : sz d.letter ≠ 0) (ha : a ≤ s.length) (hs : s.length ≤ 1000000) :
    SpecH Tryz.prog 63 [.c (.v (.pointer (some ⟨ub, 0, none⟩))), .c (.v (dirV d))] [unE ub s a out len cap]
      (RetG (NumOk (rdNum d (s.drop a)) a s.length) numV fun i => [unE ub s i.2.2 out len cap]) := by
  refine ownC hm Tryz.func63 (by kernel_rfl) rfl rfl (fun _ _ => okHB_eq rfl) (fun _ _ => Nat.le_refl _) ?_
  have h8 := sz_le8 d.letter
  have hrd : rdNum d (s.drop a) = if s.length - a < sz d.letter then .error 14 else match whl d ((s.drop a).take (sz d.letter)) with | .ok n => .ok (n, sz d.letter) | .error e => .error e := by
    unfold rdNum
    rw [if_neg (fun h => hz0 (by rw [show d.letter = 119 by simpa using h]; rfl)), if_neg (fun h => hz0 (by rw [show d.letter = 85 by simpa using h]; rfl)), List.length_drop]
    rfl
  (first | refine wX ?_ | exact wZ)
  refine callQ (left_c ub s a out len cap ha hs _ (fun w hw => hw.1)) ?_
  (first | refine wX ?_ | exact wZ)
  refine callQ (bytes_c d _) ?_
  (first | refine wX ?_ | exact wZ)
  refine brd_dec (fun h1 => ?_) (fun h1 => ?_)
  · rw [if_pos (by omega)] at hrd
    (first | refine wX ?_ | exact wZ)
    exact ⟨(0, 14, a), by rw [hrd]; exact ⟨rfl, rfl, ha⟩, rfl, wkE_refl _, wkH_nil _⟩
  · rw [if_neg (by omega)] at hrd
    (first | refine wX ?_ | exact wZ)
    refine call1 (bytes_c d _) ?_
    (first | refine wX ?_ | exact wZ)
    refine callG (cut_c ub s a (sz d.letter) out len cap (by omega) hs) [0] rfl ⟨rfl, trivial⟩ rfl fun _ _ => ?_
    obtain ⟨L, hL⟩ : ∃ L, (s.drop a).take (sz d.letter) = L := ⟨_, rfl⟩
    have hLl : L.length = sz d.letter := by rw [← hL, List.length_take, List.length_drop]; omega
    rw [hL] at hrd ⊢
    (first | refine wX ?_ | exact wZ)
    refine EffW.bytesOf (e := 5) L rfl Tryz.underlying9 (by kernel_rfl) (by kernel_rfl) rfl (by omega) fun lb lc h5 h6 => ?_
    (first | refine wX ?_ | exact wZ)
    refine call1 (high_c d _) ?_
    have hwl : whl d L = if sg d.letter then .ok (if beN (if hi d = true then L else L.reverse) < 2 ^ (8 * L.length - 1) then ((beN (if hi d = true then L else L.reverse) : Nat) : Int) else ((beN (if hi d = true then L else L.reverse) : Nat) : Int) - 2 ^ (8 * L.length)) else if beN (if hi d = true then L else L.reverse) < 2 ^ 63 then .ok ((beN (if hi d = true then L else L.reverse) : Nat) : Int) else .error 5 := rfl
    cases hh : hi d with
    | true =>
      rw [hh] at hwl
      -- L: the bytes, greatest first; they lie in entry 2 at lb
      have hTl : (L).length = sz d.letter := by first | exact hLl | (rw [List.length_reverse]; exact hLl)
      (first | refine wX ?_ | exact wZ)
      refine LoopN.intro Nat (fun j => j ≤ L.length) (fun j => mkS Tryz.f63.ntmps 0 [(0, .c (.v (.pointer (some ⟨ub, 0, none⟩)))), (3, .c (.lp 1 0)), (7, .c (.v (.int .u64 ((beN ((L).take j) : Nat) : Int)))), (26, .c (.v (.slice (some ⟨lb, 0, none⟩) L.length lc))), (27, .c (.v (.int .i64 (L.length : Int)))), (28, .c (.v (.int .i64 (j : Int))))])
        (fun _ => [unE ub s (a + sz d.letter) out len cap, .blk 58 [.v (.int .u8 (d.letter.toNat : Int)), .v (.bool d.big), .v (.int .i64 d.count)], own (L) lb lc]) (fun j => L.length - j) [] rfl
        (fun _ => rfl) (fun _ => rfl) (fun _ _ => okHB_eq rfl) ⟨0, Nat.zero_le _, ?_, ?_⟩ ?_
      · (repeat' (first | exact trivial | refine And.intro (by with_reducible rfl) ?_ | (with_reducible exact wkC_refl _) | (with_reducible exact wkCs_refl _) | refine And.intro ?_ ?_))
        all_goals rfl
      · exact ⟨wkE_refl _, wkE_refl _, wkE_refl _, wkH_nil _⟩
      intro j hj
      (first | refine wX ?_ | exact wZ)
      refine brd_dec (fun h1 => ?_) (fun h1 => ?_)
      · obtain ⟨c, hc⟩ : ∃ c, (L)[j]? = some c := ⟨_, List.getElem?_eq_getElem (by omega)⟩
        have hsn : (L).take (j + 1) = (L).take j ++ [c] := Pack.take_snoc hc
        have hbj : beN ((L).take j) < 72057594037927936 := by
          have h2 := beN_lt ((L).take j)
          rw [List.length_take, Nat.min_eq_left (by omega)] at h2
          exact Nat.lt_of_lt_of_le h2 (Nat.pow_le_pow_right (by decide) (show j ≤ 7 by omega))
        have hcl := UInt8.toNat_lt c
        (first | refine wX ?_ | exact wZ)
        refine Nd.mk ⟨rfl, by omega, by omega⟩ ?_
        (first | refine wX ?_ | exact wZ)
        refine LdN.one (.int .u8 (c.toNat : Int)) rfl (fun w hw => hw.2.1) (by
          show (u8s (L))[(j : Int).toNat * 1]? = _
          rw [Nat.mul_one, Int.toNat_natCast]
          exact u8s_at hc) ?_
        (first | refine wX ?_ | exact wZ)
        refine ⟨j + 1, by omega, by omega, ?_, by (repeat' (first | exact trivial | exact wkE_refl _ | refine And.intro ?_ ?_))⟩
        (repeat' (first | exact trivial | refine And.intro (by with_reducible rfl) ?_ | (with_reducible exact wkC_refl _) | (with_reducible exact wkCs_refl _) | refine And.intro ?_ ?_))
        all_goals first | rfl | exact av_int (by rw [wrap_i64 (by omega)]; omega) | exact av_int (by rw [step8 _ _ hbj hcl, hsn, beN_snoc])
      · have hj2 : j = L.length := by omega
        rw [show (L).take j = L from List.take_of_length_le (by omega)]
        have hbj : beN (L) < 256 ^ sz d.letter := by
          have h2 := beN_lt (L)
          rw [hTl] at h2
          exact h2
        (first | refine wX ?_ | exact wZ)
        refine call1 (signed_c d _) ?_
        cases hsg : sg d.letter with
        | true =>
          rw [hsg] at hwl
          rcases sz4 hz0 with hk | hk | hk | hk
          · skip
            -- L: the bytes; 1: how many; 72057594037927936: 2^(64 - 8 1); 256: 256^1; 128: the half of that
            have hby := bytes_c d
            rw [hk] at hby
            rw [hk] at hbj hLl
            have hb2 : beN (L) < 256 := hbj
            have hv := sgn1 (beN (L)) hb2
            have hwv : whl d L = .ok (if beN (L) < 128 then ((beN (L) : Nat) : Int) else ((beN (L) : Nat) : Int) - 256) := by
              rw [hwl, hLl]
              first | (rw [if_pos rfl, if_pos rfl]; rfl) | (rw [if_pos rfl, if_neg (show ¬ false = true by decide)]; rfl)
            rw [hwv] at hrd
            clear hwl hwv
            (first | refine wX ?_ | exact wZ)
            refine call1 (hby _) ?_
            (first | refine wX ?_ | exact wZ)
            rw [hv]
            refine ⟨((if beN (L) < 128 then ((beN (L) : Nat) : Int) else ((beN (L) : Nat) : Int) - 256), 0, a + sz d.letter), by rw [hrd]; exact ⟨rfl, by omega⟩, rfl, wkE_refl _, wkH_nil _⟩
          · skip
            -- L: the bytes; 2: how many; 281474976710656: 2^(64 - 8 2); 65536: 256^2; 32768: the half of that
            have hby := bytes_c d
            rw [hk] at hby
            rw [hk] at hbj hLl
            have hb2 : beN (L) < 65536 := hbj
            have hv := sgn2 (beN (L)) hb2
            have hwv : whl d L = .ok (if beN (L) < 32768 then ((beN (L) : Nat) : Int) else ((beN (L) : Nat) : Int) - 65536) := by
              rw [hwl, hLl]
              first | (rw [if_pos rfl, if_pos rfl]; rfl) | (rw [if_pos rfl, if_neg (show ¬ false = true by decide)]; rfl)
            rw [hwv] at hrd
            clear hwl hwv
            (first | refine wX ?_ | exact wZ)
            refine call1 (hby _) ?_
            (first | refine wX ?_ | exact wZ)
            rw [hv]
            refine ⟨((if beN (L) < 32768 then ((beN (L) : Nat) : Int) else ((beN (L) : Nat) : Int) - 65536), 0, a + sz d.letter), by rw [hrd]; exact ⟨rfl, by omega⟩, rfl, wkE_refl _, wkH_nil _⟩
          · skip
            -- L: the bytes; 4: how many; 4294967296: 2^(64 - 8 4); 4294967296: 256^4; 2147483648: the half of that
            have hby := bytes_c d
            rw [hk] at hby
            rw [hk] at hbj hLl
            have hb2 : beN (L) < 4294967296 := hbj
            have hv := sgn4 (beN (L)) hb2
            have hwv : whl d L = .ok (if beN (L) < 2147483648 then ((beN (L) : Nat) : Int) else ((beN (L) : Nat) : Int) - 4294967296) := by
              rw [hwl, hLl]
              first | (rw [if_pos rfl, if_pos rfl]; rfl) | (rw [if_pos rfl, if_neg (show ¬ false = true by decide)]; rfl)
            rw [hwv] at hrd
            clear hwl hwv
            (first | refine wX ?_ | exact wZ)
            refine call1 (hby _) ?_
            (first | refine wX ?_ | exact wZ)
            rw [hv]
            refine ⟨((if beN (L) < 2147483648 then ((beN (L) : Nat) : Int) else ((beN (L) : Nat) : Int) - 4294967296), 0, a + sz d.letter), by rw [hrd]; exact ⟨rfl, by omega⟩, rfl, wkE_refl _, wkH_nil _⟩
          · skip
            -- L: the bytes; 8: how many; 1: 2^(64 - 8 8); 18446744073709551616: 256^8; 9223372036854775808: the half of that
            have hby := bytes_c d
            rw [hk] at hby
            rw [hk] at hbj hLl
            have hb2 : beN (L) < 18446744073709551616 := hbj
            have hv := sgn8 (beN (L)) hb2
            have hwv : whl d L = .ok (if beN (L) < 9223372036854775808 then ((beN (L) : Nat) : Int) else ((beN (L) : Nat) : Int) - 18446744073709551616) := by
              rw [hwl, hLl]
              first | (rw [if_pos rfl, if_pos rfl]; rfl) | (rw [if_pos rfl, if_neg (show ¬ false = true by decide)]; rfl)
            rw [hwv] at hrd
            clear hwl hwv
            (first | refine wX ?_ | exact wZ)
            refine call1 (hby _) ?_
            (first | refine wX ?_ | exact wZ)
            rw [hv]
            refine ⟨((if beN (L) < 9223372036854775808 then ((beN (L) : Nat) : Int) else ((beN (L) : Nat) : Int) - 18446744073709551616), 0, a + sz d.letter), by rw [hrd]; exact ⟨rfl, by omega⟩, rfl, wkE_refl _, wkH_nil _⟩
        | false =>
          rw [hsg] at hwl
          have hb2 : beN (L) < 18446744073709551616 := Nat.lt_of_lt_of_le hbj (Nat.pow_le_pow_right (by decide) h8)
          have hp : (2 : Int) ^ min (Int.toNat 63) IntKind.u64.bits = 9223372036854775808 := by decide +kernel
          have hdv : (((beN (L) : Nat) : Int)).fdiv (2 ^ min (Int.toNat 63) IntKind.u64.bits) = ((beN (L) / 9223372036854775808 : Nat) : Int) := by
            rw [hp, Int.fdiv_eq_ediv_of_nonneg _ (by decide)]
            rfl
          (first | refine wX ?_ | exact wZ)
          rw [hdv]
          refine brd_dec (fun h2 => ?_) (fun h2 => ?_)
          · have hwv : whl d L = .error 5 := by
              rw [hwl]
              show (if beN (L) < 9223372036854775808 then _ else _) = _
              rw [if_neg (by omega)]
            rw [hwv] at hrd
            (first | refine wX ?_ | exact wZ)
            exact ⟨(0, 5, a + sz d.letter), by rw [hrd]; exact ⟨rfl, rfl, by show a + sz d.letter ≤ s.length; omega⟩, rfl, wkE_refl _, wkH_nil _⟩
          · have hwv : whl d L = .ok ((beN (L) : Nat) : Int) := by
              rw [hwl]
              show (if beN (L) < 9223372036854775808 then _ else _) = _
              rw [if_pos (by omega)]
              rfl
            rw [hwv] at hrd
            (first | refine wX ?_ | exact wZ)
            exact ⟨(((beN (L) : Nat) : Int), 0, a + sz d.letter), by rw [hrd]; exact ⟨rfl, by omega⟩, rfl, wkE_refl _, wkH_nil _⟩
    | false =>
      rw [hh] at hwl
      (first | refine wX ?_ | exact wZ)
      refine callG (Reverse_c L lb lc (by omega)) [2] rfl ⟨rfl, trivial⟩ rfl fun _ _ => ?_
      -- L.reverse: the bytes, greatest first; they lie in entry 2 at lb
      have hTl : (L.reverse).length = sz d.letter := by first | exact hLl | (rw [List.length_reverse]; exact hLl)
      (first | refine wX ?_ | exact wZ)
      refine LoopN.intro Nat (fun j => j ≤ L.length) (fun j => mkS Tryz.f63.ntmps 0 [(0, .c (.v (.pointer (some ⟨ub, 0, none⟩)))), (3, .c (.lp 1 0)), (7, .c (.v (.int .u64 ((beN ((L.reverse).take j) : Nat) : Int)))), (26, .c (.v (.slice (some ⟨lb, 0, none⟩) L.length lc))), (27, .c (.v (.int .i64 (L.length : Int)))), (28, .c (.v (.int .i64 (j : Int))))])
        (fun _ => [unE ub s (a + sz d.letter) out len cap, .blk 58 [.v (.int .u8 (d.letter.toNat : Int)), .v (.bool d.big), .v (.int .i64 d.count)], own (L.reverse) lb lc]) (fun j => L.length - j) [] rfl
        (fun _ => rfl) (fun _ => rfl) (fun _ _ => okHB_eq rfl) ⟨0, Nat.zero_le _, ?_, ?_⟩ ?_
      · (repeat' (first | exact trivial | refine And.intro (by with_reducible rfl) ?_ | (with_reducible exact wkC_refl _) | (with_reducible exact wkCs_refl _) | refine And.intro ?_ ?_))
        all_goals rfl
      · exact ⟨wkE_refl _, wkE_refl _, wkE_refl _, wkH_nil _⟩
      intro j hj
      (first | refine wX ?_ | exact wZ)
      refine brd_dec (fun h1 => ?_) (fun h1 => ?_)
      · obtain ⟨c, hc⟩ : ∃ c, (L.reverse)[j]? = some c := ⟨_, List.getElem?_eq_getElem (by omega)⟩
        have hsn : (L.reverse).take (j + 1) = (L.reverse).take j ++ [c] := Pack.take_snoc hc
        have hbj : beN ((L.reverse).take j) < 72057594037927936 := by
          have h2 := beN_lt ((L.reverse).take j)
          rw [List.length_take, Nat.min_eq_left (by omega)] at h2
          exact Nat.lt_of_lt_of_le h2 (Nat.pow_le_pow_right (by decide) (show j ≤ 7 by omega))
        have hcl := UInt8.toNat_lt c
        (first | refine wX ?_ | exact wZ)
        refine Nd.mk ⟨rfl, by omega, by omega⟩ ?_
        (first | refine wX ?_ | exact wZ)
        refine LdN.one (.int .u8 (c.toNat : Int)) rfl (fun w hw => hw.2.1) (by
          show (u8s (L.reverse))[(j : Int).toNat * 1]? = _
          rw [Nat.mul_one, Int.toNat_natCast]
          exact u8s_at hc) ?_
        (first | refine wX ?_ | exact wZ)
        refine ⟨j + 1, by omega, by omega, ?_, by (repeat' (first | exact trivial | exact wkE_refl _ | refine And.intro ?_ ?_))⟩
        (repeat' (first | exact trivial | refine And.intro (by with_reducible rfl) ?_ | (with_reducible exact wkC_refl _) | (with_reducible exact wkCs_refl _) | refine And.intro ?_ ?_))
        all_goals first | rfl | exact av_int (by rw [wrap_i64 (by omega)]; omega) | exact av_int (by rw [step8 _ _ hbj hcl, hsn, beN_snoc])
      · have hj2 : j = L.length := by omega
        rw [show (L.reverse).take j = L.reverse from List.take_of_length_le (by omega)]
        have hbj : beN (L.reverse) < 256 ^ sz d.letter := by
          have h2 := beN_lt (L.reverse)
          rw [hTl] at h2
          exact h2
        (first | refine wX ?_ | exact wZ)
        refine call1 (signed_c d _) ?_
        cases hsg : sg d.letter with
        | true =>
          rw [hsg] at hwl
          rcases sz4 hz0 with hk | hk | hk | hk
          · skip
            -- L.reverse: the bytes; 1: how many; 72057594037927936: 2^(64 - 8 1); 256: 256^1; 128: the half of that
            have hby := bytes_c d
            rw [hk] at hby
            rw [hk] at hbj hLl
            have hb2 : beN (L.reverse) < 256 := hbj
            have hv := sgn1 (beN (L.reverse)) hb2
            have hwv : whl d L = .ok (if beN (L.reverse) < 128 then ((beN (L.reverse) : Nat) : Int) else ((beN (L.reverse) : Nat) : Int) - 256) := by
              rw [hwl, hLl]
              first | (rw [if_pos rfl, if_pos rfl]; rfl) | (rw [if_pos rfl, if_neg (show ¬ false = true by decide)]; rfl)
            rw [hwv] at hrd
            clear hwl hwv
            (first | refine wX ?_ | exact wZ)
            refine call1 (hby _) ?_
            (first | refine wX ?_ | exact wZ)
            rw [hv]
            refine ⟨((if beN (L.reverse) < 128 then ((beN (L.reverse) : Nat) : Int) else ((beN (L.reverse) : Nat) : Int) - 256), 0, a + sz d.letter), by rw [hrd]; exact ⟨rfl, by omega⟩, rfl, wkE_refl _, wkH_nil _⟩
          · skip
            -- L.reverse: the bytes; 2: how many; 281474976710656: 2^(64 - 8 2); 65536: 256^2; 32768: the half of that
            have hby := bytes_c d
            rw [hk] at hby
            rw [hk] at hbj hLl
            have hb2 : beN (L.reverse) < 65536 := hbj
            have hv := sgn2 (beN (L.reverse)) hb2
            have hwv : whl d L = .ok (if beN (L.reverse) < 32768 then ((beN (L.reverse) : Nat) : Int) else ((beN (L.reverse) : Nat) : Int) - 65536) := by
              rw [hwl, hLl]
              first | (rw [if_pos rfl, if_pos rfl]; rfl) | (rw [if_pos rfl, if_neg (show ¬ false = true by decide)]; rfl)
            rw [hwv] at hrd
            clear hwl hwv
            (first | refine wX ?_ | exact wZ)
            refine call1 (hby _) ?_
            (first | refine wX ?_ | exact wZ)
            rw [hv]
            refine ⟨((if beN (L.reverse) < 32768 then ((beN (L.reverse) : Nat) : Int) else ((beN (L.reverse) : Nat) : Int) - 65536), 0, a + sz d.letter), by rw [hrd]; exact ⟨rfl, by omega⟩, rfl, wkE_refl _, wkH_nil _⟩
          · skip
            -- L.reverse: the bytes; 4: how many; 4294967296: 2^(64 - 8 4); 4294967296: 256^4; 2147483648: the half of that
            have hby := bytes_c d
            rw [hk] at hby
            rw [hk] at hbj hLl
            have hb2 : beN (L.reverse) < 4294967296 := hbj
            have hv := sgn4 (beN (L.reverse)) hb2
            have hwv : whl d L = .ok (if beN (L.reverse) < 2147483648 then ((beN (L.reverse) : Nat) : Int) else ((beN (L.reverse) : Nat) : Int) - 4294967296) := by
              rw [hwl, hLl]
              first | (rw [if_pos rfl, if_pos rfl]; rfl) | (rw [if_pos rfl, if_neg (show ¬ false = true by decide)]; rfl)
            rw [hwv] at hrd
            clear hwl hwv
            (first | refine wX ?_ | exact wZ)
            refine call1 (hby _) ?_
            (first | refine wX ?_ | exact wZ)
            rw [hv]
            refine ⟨((if beN (L.reverse) < 2147483648 then ((beN (L.reverse) : Nat) : Int) else ((beN (L.reverse) : Nat) : Int) - 4294967296), 0, a + sz d.letter), by rw [hrd]; exact ⟨rfl, by omega⟩, rfl, wkE_refl _, wkH_nil _⟩
          · skip
            -- L.reverse: the bytes; 8: how many; 1: 2^(64 - 8 8); 18446744073709551616: 256^8; 9223372036854775808: the half of that
            have hby := bytes_c d
            rw [hk] at hby
            rw [hk] at hbj hLl
            have hb2 : beN (L.reverse) < 18446744073709551616 := hbj
            have hv := sgn8 (beN (L.reverse)) hb2
            have hwv : whl d L = .ok (if beN (L.reverse) < 9223372036854775808 then ((beN (L.reverse) : Nat) : Int) else ((beN (L.reverse) : Nat) : Int) - 18446744073709551616) := by
              rw [hwl, hLl]
              first | (rw [if_pos rfl, if_pos rfl]; rfl) | (rw [if_pos rfl, if_neg (show ¬ false = true by decide)]; rfl)
            rw [hwv] at hrd
            clear hwl hwv
            (first | refine wX ?_ | exact wZ)
            refine call1 (hby _) ?_
            (first | refine wX ?_ | exact wZ)
            rw [hv]
            refine ⟨((if beN (L.reverse) < 9223372036854775808 then ((beN (L.reverse) : Nat) : Int) else ((beN (L.reverse) : Nat) : Int) - 18446744073709551616), 0, a + sz d.letter), by rw [hrd]; exact ⟨rfl, by omega⟩, rfl, wkE_refl _, wkH_nil _⟩
        | false =>
          rw [hsg] at hwl
          have hb2 : beN (L.reverse) < 18446744073709551616 := Nat.lt_of_lt_of_le hbj (Nat.pow_le_pow_right (by decide) h8)
          have hp : (2 : Int) ^ min (Int.toNat 63) IntKind.u64.bits = 9223372036854775808 := by decide +kernel
          have hdv : (((beN (L.reverse) : Nat) : Int)).fdiv (2 ^ min (Int.toNat 63) IntKind.u64.bits) = ((beN (L.reverse) / 9223372036854775808 : Nat) : Int) := by
            rw [hp, Int.fdiv_eq_ediv_of_nonneg _ (by decide)]
            rfl
          (first | refine wX ?_ | exact wZ)
          rw [hdv]
          refine brd_dec (fun h2 => ?_) (fun h2 => ?_)
          · have hwv : whl d L = .error 5 := by
              rw [hwl]
              show (if beN (L.reverse) < 9223372036854775808 then _ else _) = _
              rw [if_neg (by omega)]
            rw [hwv] at hrd
            (first | refine wX ?_ | exact wZ)
            exact ⟨(0, 5, a + sz d.letter), by rw [hrd]; exact ⟨rfl, rfl, by show a + sz d.letter ≤ s.length; omega⟩, rfl, wkE_refl _, wkH_nil _⟩
          · have hwv : whl d L = .ok ((beN (L.reverse) : Nat) : Int) := by
              rw [hwl]
              show (if beN (L.reverse) < 9223372036854775808 then _ else _) = _
              rw [if_pos (by omega)]
              rfl
            rw [hwv] at hrd
            (first | refine wX ?_ | exact wZ)
            exact ⟨(((beN (L.reverse) : Nat) : Int), 0, a + sz d.letter), by rw [hrd]; exact ⟨rfl, by omega⟩, rfl, wkE_refl _, wkH_nil _⟩
end Go.Proofs.YtjkchonpnocffaaGreatDoor

/-
  Contract: a number is read (program).
-/
namespace Go.Proofs.YtjkchonpnocffaaGreatDoor
open Go.AX Go.RowKit Go.Pack
set_option maxRecDepth 20000

theorem bs_get (s : List UInt8) (i : Nat) : ((bs s).get! i).toNat = (s[i]?.map UInt8.toNat).getD 0 := by
  unfold bs ByteArray.get!
  simp only [List.getElem!_toArray, List.getElem!_eq_getElem?_getD]
  cases s[i]? <;> rfl
theorem cont_iff (c : UInt8) : cont c = true ↔ c.toNat / 64 = 2 := by
  unfold cont
  rw [Bool.and_eq_true, decide_eq_true_eq, decide_eq_true_eq, UInt8.le_iff_toNat_le, UInt8.lt_iff_toNat_lt]
  show 128 ≤ c.toNat ∧ c.toNat < 192 ↔ _
  omega
theorem u8_lt (a : UInt8) (n : Nat) (h : n < 256) : a < UInt8.ofNat n ↔ a.toNat < n := by
  rw [UInt8.lt_iff_toNat_lt, UInt8.toNat_ofNat']
  rw [Nat.mod_eq_of_lt (by omega)]
theorem u8_le (a : UInt8) (n : Nat) (h : n < 256) : UInt8.ofNat n ≤ a ↔ n ≤ a.toNat := by
  rw [UInt8.le_iff_toNat_le, UInt8.toNat_ofNat']
  rw [Nat.mod_eq_of_lt (by omega)]
def orErr : Option (Nat × Nat) → Nat × Nat
  | some x => x
  | none => (65533, 1)
theorem orErr_ite (c : Prop) [Decidable c] (x y : Option (Nat × Nat)) : orErr (if c then x else y) = if c then orErr x else orErr y := by split <;> rfl
theorem orErr_some (x : Nat × Nat) : orErr (some x) = x := rfl
theorem orErr_none : orErr none = (65533, 1) := rfl
theorem dec1 (a : UInt8) : Lib.decodeGo (bs [a]) = orErr (runeD [a]) := by
  unfold Lib.decodeGo
  rw [if_neg (by rw [bs_size]; simp), Lib.decode_at, bs_get, bs_get, bs_get, bs_get, bs_size]
  have ha := UInt8.toNat_lt a
  have e1 : (a < 128) = (a.toNat < 128) := propext (u8_lt a 128 (by decide))
  have e2 : (192 ≤ a) = (192 ≤ a.toNat) := propext (u8_le a 192 (by decide))
  have e3 : (a < 224) = (a.toNat < 224) := propext (u8_lt a 224 (by decide))
  have e4 : (224 ≤ a) = (224 ≤ a.toNat) := propext (u8_le a 224 (by decide))
  have e5 : (a < 240) = (a.toNat < 240) := propext (u8_lt a 240 (by decide))
  have e6 : (240 ≤ a) = (240 ≤ a.toNat) := propext (u8_le a 240 (by decide))
  have e7 : (a < 248) = (a.toNat < 248) := propext (u8_lt a 248 (by decide))
  simp only [runeD, Lib.decodeN, orErr_ite, orErr_some, orErr_none, e1, e2, e3, e4, e5, e6, e7, Bool.and_eq_true, decide_eq_true_eq, List.length_cons, List.getElem?_cons_zero, List.getElem?_cons_succ, List.length_nil, List.getElem?_nil, Option.map, Option.getD]
  clear e1 e2 e3 e4 e5 e6 e7
  generalize a.toNat = A at *
  rcases (by omega : A < 128 ∨ (128 ≤ A ∧ A < 192) ∨ (192 ≤ A ∧ A < 224) ∨ (224 ≤ A ∧ A < 240) ∨ (240 ≤ A ∧ A < 248) ∨ 248 ≤ A) with h | h | h | h | h | h
  all_goals simp (disch := omega) only [if_pos, if_neg]
  all_goals (repeat' split)
  all_goals first | rfl | (exfalso; omega) | (congr 1; omega)
theorem dec2 (a b : UInt8) : Lib.decodeGo (bs [a, b]) = orErr (runeD [a, b]) := by
  unfold Lib.decodeGo
  rw [if_neg (by rw [bs_size]; simp), Lib.decode_at, bs_get, bs_get, bs_get, bs_get, bs_size]
  have ha := UInt8.toNat_lt a
  have e1 : (a < 128) = (a.toNat < 128) := propext (u8_lt a 128 (by decide))
  have e2 : (192 ≤ a) = (192 ≤ a.toNat) := propext (u8_le a 192 (by decide))
  have e3 : (a < 224) = (a.toNat < 224) := propext (u8_lt a 224 (by decide))
  have e4 : (224 ≤ a) = (224 ≤ a.toNat) := propext (u8_le a 224 (by decide))
  have e5 : (a < 240) = (a.toNat < 240) := propext (u8_lt a 240 (by decide))
  have e6 : (240 ≤ a) = (240 ≤ a.toNat) := propext (u8_le a 240 (by decide))
  have e7 : (a < 248) = (a.toNat < 248) := propext (u8_lt a 248 (by decide))
  have hb := UInt8.toNat_lt b
  simp only [runeD, Lib.decodeN, orErr_ite, orErr_some, orErr_none, e1, e2, e3, e4, e5, e6, e7, Bool.and_eq_true, decide_eq_true_eq, cont_iff, List.length_cons, List.getElem?_cons_zero, List.getElem?_cons_succ, List.length_nil, List.getElem?_nil, Option.map, Option.getD]
  clear e1 e2 e3 e4 e5 e6 e7
  generalize a.toNat = A at *
  rcases (by omega : A < 128 ∨ (128 ≤ A ∧ A < 192) ∨ (192 ≤ A ∧ A < 224) ∨ (224 ≤ A ∧ A < 240) ∨ (240 ≤ A ∧ A < 248) ∨ 248 ≤ A) with h | h | h | h | h | h
  all_goals simp (disch := omega) only [if_pos, if_neg]
  all_goals (repeat' split)
  all_goals first | rfl | (exfalso; omega) | (congr 1; omega)
theorem dec3 (a b c : UInt8) : Lib.decodeGo (bs [a, b, c]) = orErr (runeD [a, b, c]) := by
  unfold Lib.decodeGo
  rw [if_neg (by rw [bs_size]; simp), Lib.decode_at, bs_get, bs_get, bs_get, bs_get, bs_size]
  have ha := UInt8.toNat_lt a
  have e1 : (a < 128) = (a.toNat < 128) := propext (u8_lt a 128 (by decide))
  have e2 : (192 ≤ a) = (192 ≤ a.toNat) := propext (u8_le a 192 (by decide))
  have e3 : (a < 224) = (a.toNat < 224) := propext (u8_lt a 224 (by decide))
  have e4 : (224 ≤ a) = (224 ≤ a.toNat) := propext (u8_le a 224 (by decide))
  have e5 : (a < 240) = (a.toNat < 240) := propext (u8_lt a 240 (by decide))
  have e6 : (240 ≤ a) = (240 ≤ a.toNat) := propext (u8_le a 240 (by decide))
  have e7 : (a < 248) = (a.toNat < 248) := propext (u8_lt a 248 (by decide))
  have hb := UInt8.toNat_lt b
  have hc := UInt8.toNat_lt c
  simp only [runeD, Lib.decodeN, orErr_ite, orErr_some, orErr_none, e1, e2, e3, e4, e5, e6, e7, Bool.and_eq_true, Bool.or_eq_true, decide_eq_true_eq, cont_iff, List.length_cons, List.getElem?_cons_zero, List.getElem?_cons_succ, List.length_nil, List.getElem?_nil, Option.map, Option.getD]
  clear e1 e2 e3 e4 e5 e6 e7
  generalize a.toNat = A at *
  rcases (by omega : A < 128 ∨ (128 ≤ A ∧ A < 192) ∨ (192 ≤ A ∧ A < 224) ∨ (224 ≤ A ∧ A < 240) ∨ (240 ≤ A ∧ A < 248) ∨ 248 ≤ A) with h | h | h | h | h | h
  all_goals simp (disch := omega) only [if_pos, if_neg]
  all_goals (repeat' split)
  all_goals first | rfl | (exfalso; omega) | (congr 1; omega)
theorem dec4 (a b c d : UInt8) (r : List UInt8) : Lib.decodeGo (bs (a :: b :: c :: d :: r)) = orErr (runeD (a :: b :: c :: d :: r)) := by
  unfold Lib.decodeGo
  rw [if_neg (by rw [bs_size]; simp), Lib.decode_at, bs_get, bs_get, bs_get, bs_get, bs_size]
  have ha := UInt8.toNat_lt a
  have e1 : (a < 128) = (a.toNat < 128) := propext (u8_lt a 128 (by decide))
  have e2 : (192 ≤ a) = (192 ≤ a.toNat) := propext (u8_le a 192 (by decide))
  have e3 : (a < 224) = (a.toNat < 224) := propext (u8_lt a 224 (by decide))
  have e4 : (224 ≤ a) = (224 ≤ a.toNat) := propext (u8_le a 224 (by decide))
  have e5 : (a < 240) = (a.toNat < 240) := propext (u8_lt a 240 (by decide))
  have e6 : (240 ≤ a) = (240 ≤ a.toNat) := propext (u8_le a 240 (by decide))
  have e7 : (a < 248) = (a.toNat < 248) := propext (u8_lt a 248 (by decide))
  have hb := UInt8.toNat_lt b
  have hc := UInt8.toNat_lt c
  have hd := UInt8.toNat_lt d
  simp only [runeD, Lib.decodeN, orErr_ite, orErr_some, orErr_none, e1, e2, e3, e4, e5, e6, e7, Bool.and_eq_true, Bool.or_eq_true, decide_eq_true_eq, cont_iff, List.length_cons, List.getElem?_cons_zero, List.getElem?_cons_succ, Option.map, Option.getD]
  clear e1 e2 e3 e4 e5 e6 e7
  generalize a.toNat = A at *
  rcases (by omega : A < 128 ∨ (128 ≤ A ∧ A < 192) ∨ (192 ≤ A ∧ A < 224) ∨ (224 ≤ A ∧ A < 240) ∨ (240 ≤ A ∧ A < 248) ∨ 248 ≤ A) with h | h | h | h | h | h
  all_goals simp (disch := omega) only [if_pos, if_neg]
  all_goals (repeat' split)
  all_goals first | rfl | (exfalso; omega) | (congr 1; omega)
theorem dec_eq (a : UInt8) (r : List UInt8) : Lib.decodeGo (bs (a :: r)) = orErr (runeD (a :: r)) := by
  rcases r with _ | ⟨b, _ | ⟨c, _ | ⟨d, r⟩⟩⟩
  · exact dec1 a
  · exact dec2 a b
  · exact dec3 a b c
  · exact dec4 a b c d r
end Go.Proofs.YtjkchonpnocffaaGreatDoor

/-
  Contract: a number is read (program).
-/
namespace Go.Proofs.YtjkchonpnocffaaGreatDoor
open Go.AX Go.RowKit Go.Pack
set_option maxRecDepth 20000

/-- What is known of the world: a number of bytealg's, the tables of utf8. -/
def UtfF (w : World) : Prop := MaxF w ∧ Lib.Utf8Tabs 1 2 w
theorem Decode_c (s : List UInt8) : ∀ H, (∀ w, Facts H w → UtfF w) → SpecH Tryz.prog 62 (pvs [.string (bs s)]) H (Ret (.tuple #[.int .i32 ((Lib.decodeGo (bs s)).1 : Int), .int .i64 ((Lib.decodeGo (bs s)).2 : Int)]) H) := fun H hF =>
  SpecH.rawP (R := fun r => r = .tuple #[.int .i32 ((Lib.decodeGo (bs s)).1 : Int), .int .i64 ((Lib.decodeGo (bs s)).2 : Int)]) (callOk Tryz.func62 (by kernel_rfl) rfl) (fun w hw => (Tryz.utf8_DecodeRuneInString (bs s) w (hF w hw).2).mono fun e w' ⟨he, bel⟩ => ⟨_, he, rfl, bel⟩) fun r hr => by subst hr; exact ⟨rfl, rfl⟩
theorem runeD_le {s : List UInt8} {n k : Nat} (h : runeD s = some (n, k)) : 1 ≤ k ∧ k ≤ s.length ∧ n ≤ 1114111 ∧ (n = 65533 → 1 < k) := by
  cases s with
  | nil => cases h
  | cons a r =>
    unfold runeD at h
    simp only at h
    have ha := UInt8.toNat_lt a
    split at h
    · rename_i h1
      have h2 : a.toNat < 128 := UInt8.lt_iff_toNat_lt.1 h1
      cases h
      exact ⟨Nat.le_refl _, by simp, by omega, by omega⟩
    split at h
    · rename_i h1
      rw [Bool.and_eq_true, decide_eq_true_eq, decide_eq_true_eq] at h1
      have h3 : a.toNat < 224 := UInt8.lt_iff_toNat_lt.1 h1.2
      split at h
      · rename_i b r2
        have hb := UInt8.toNat_lt b
        split at h
        · cases h
          exact ⟨by omega, by simp, by omega, by omega⟩
        · cases h
      · cases h
    split at h
    · rename_i h1
      rw [Bool.and_eq_true, decide_eq_true_eq, decide_eq_true_eq] at h1
      have h3 : a.toNat < 240 := UInt8.lt_iff_toNat_lt.1 h1.2
      split at h
      · rename_i b c r2
        have hb := UInt8.toNat_lt b
        have hc := UInt8.toNat_lt c
        split at h
        · cases h
          exact ⟨by omega, by simp, by omega, by omega⟩
        · cases h
      · cases h
    split at h
    · split at h
      · split at h
        · rename_i h9
          simp only [Bool.and_eq_true, decide_eq_true_eq] at h9
          cases h
          exact ⟨by omega, by simp, h9.2, by omega⟩
        · cases h
      · cases h
    · cases h
theorem number_u (d : Dir) (ub : Nat) (s : List UInt8) (a : Nat) (out : Option Nat) (len cap : Nat) (hl : letters.contains d.letter = true) (hst : isStr d.letter = false) (hp : isPl d.letter = false) (ha : a ≤ s.length) (hs : s.length ≤ 1000000) :
    SpecH Tryz.prog 42 [.c (.v (.pointer (some ⟨ub, 0, none⟩))), .c (.v (dirV d))] [.fact UtfF, unE ub s a out len cap]
      (RetG (NumOk (rdNum d (s.drop a)) a s.length) numV fun i => [.fact UtfF, unE ub s i.2.2 out len cap]) := by
  refine ownC hm Tryz.func42 (by kernel_rfl) rfl rfl (fun _ _ => okHB_eq rfl) (fun _ _ => Nat.le_refl _) ?_
  have h119 : ((d.letter.toNat : Int) == 119) = (d.letter == 119) := u8_eq (n := 119) (by decide)
  have h85 : ((d.letter.toNat : Int) == 85) = (d.letter == 85) := u8_eq (n := 85) (by decide)
  have hzs := bs_size s
  (first | refine wX ?_ | exact wZ)
  rw [h119]
  cases e1 : d.letter == 119 with
  | true =>
    have hrd : rdNum d (s.drop a) = grp 9 0 0 (s.drop a) := by unfold rdNum; rw [if_pos e1]
    (first | refine wX ?_ | exact wZ)
    refine callG (group_c ub s a out len cap ha hs) [1] rfl ⟨rfl, trivial⟩ rfl ?_
    intro i hi
    (first | refine wX ?_ | exact wZ)
    exact ⟨i, by rw [hrd]; exact hi, rfl, wkE_refl _, wkE_refl _, wkH_nil _⟩
  | false =>
    (first | refine wX ?_ | exact wZ)
    rw [h85]
    cases e2 : d.letter == 85 with
    | true =>
      have hrd : rdNum d (s.drop a) = if (s.drop a).isEmpty then .error 14 else match runeD (s.drop a) with | some (n, k) => .ok ((n : Int), k) | none => .error 1 := by unfold rdNum; rw [if_neg (by rw [e1]; decide), if_pos e2]; rfl
      (first | refine wX ?_ | exact wZ)
      refine call1 (left_c ub s a out len cap ha hs _ (fun w hw => hw.2.1)) ?_
      (first | refine wX ?_ | exact wZ)
      cases hd : s.drop a with
      | nil =>
        have hl := drop_end hd ha
        rw [hd] at hrd
        refine brd_eq (fun h1 => ?_) (fun h1 => absurd (by omega) h1)
        (first | refine wX ?_ | exact wZ)
        exact ⟨(0, 14, a), by rw [hrd]; exact ⟨rfl, rfl, ha⟩, rfl, wkE_refl _, wkE_refl _, wkH_nil _⟩
      | cons c r =>
        obtain ⟨_, hlt, _, hln⟩ := drop_at hd
        rw [hd] at hrd
        have hrd2 : rdNum d (c :: r) = match runeD (c :: r) with | some (n, k) => .ok ((n : Int), k) | none => .error 1 := hrd
        have hdec := dec_eq c r
        refine brd_eq (fun h1 => absurd h1 (by omega)) (fun h1 => ?_)
        (first | refine wX ?_ | exact wZ)
        refine LdN.one (a := some ⟨ub, 0, none⟩) (q := 0) (.string (bs s)) rfl (fun w hw => hw.2.1) rfl ?_
        (first | refine wX ?_ | exact wZ)
        refine LdN.one (a := some ⟨ub, 0, none⟩) (q := 1) (.int .i64 (a : Int)) rfl (fun w hw => hw.2.1) rfl ?_
        (first | refine wX ?_ | exact wZ)
        refine ReadW.sl_l a rfl Tryz.underlying9 rfl rfl ⟨rfl, ha⟩ ?_
        rw [hd]
        (first | refine wX ?_ | exact wZ)
        refine callQ (Decode_c (c :: r) _ (fun w hw => hw.1)) ?_
        rw [hdec]
        cases hrn : runeD (c :: r) with
        | none =>
          rw [hrn] at hrd2
          (first | refine wX ?_ | exact wZ)
          exact ⟨(0, 1, a), by rw [hrd2]; exact ⟨rfl, rfl, ha⟩, rfl, wkE_refl _, wkE_refl _, wkH_nil _⟩
        | some x =>
          obtain ⟨n, k⟩ := x
          rw [hrn] at hrd2
          obtain ⟨h3, h4, h5, h6⟩ := runeD_le hrn
          obtain ⟨z, hz⟩ : ∃ z : Int, z = (n : Int) := ⟨_, rfl⟩
          have ho1 : ((orErr (some (n, k))).1 : Int) = z := hz.symm
          have ho2 : ((orErr (some (n, k))).2 : Int) = (k : Int) := rfl
          rw [ho1, ho2]
          have hk2 : a + k ≤ s.length := by simp only [List.length_cons] at h4; omega
          (first | refine wX ?_ | exact wZ)
          refine brd_eq (fun h7 => ?_) (fun h7 => ?_)
          · have hk1 := h6 (by omega)
            (first | refine wX ?_ | exact wZ)
            refine brd_dec (fun h8 => absurd h8 (by omega)) (fun _ => ?_)
            (first | refine wX ?_ | exact wZ)
            refine LdN.one (a := some ⟨ub, 0, none⟩) (q := 1) (.int .i64 (a : Int)) rfl (fun w hw => hw.2.1) rfl ?_
            (first | refine wX ?_ | exact wZ)
            refine EffW.appTo (i := 1) (q := 1) (ys := [_]) (unC s (a + k) out len cap) 3 rfl rfl rfl rfl rfl rfl rfl (Nat.le_of_ble_eq_true rfl) (by
              show [_, Value.int .i64 _, _] = [_, Value.int .i64 _, _]
              rw [wrap_i64 (by omega)]
              rfl) rfl ?_
            (first | refine wX ?_ | exact wZ)
            exact ⟨((n : Int), 0, a + k), by rw [hrd2]; exact ⟨rfl, hk2⟩, by rw [hz]; rfl, wkE_refl _, wkE_refl _, wkH_nil _⟩
          · skip
            (first | refine wX ?_ | exact wZ)
            refine LdN.one (a := some ⟨ub, 0, none⟩) (q := 1) (.int .i64 (a : Int)) rfl (fun w hw => hw.2.1) rfl ?_
            (first | refine wX ?_ | exact wZ)
            refine EffW.appTo (i := 1) (q := 1) (ys := [_]) (unC s (a + k) out len cap) 3 rfl rfl rfl rfl rfl rfl rfl (Nat.le_of_ble_eq_true rfl) (by
              show [_, Value.int .i64 _, _] = [_, Value.int .i64 _, _]
              rw [wrap_i64 (by omega)]
              rfl) rfl ?_
            (first | refine wX ?_ | exact wZ)
            exact ⟨((n : Int), 0, a + k), by rw [hrd2]; exact ⟨rfl, hk2⟩, by rw [hz]; rfl, wkE_refl _, wkE_refl _, wkH_nil _⟩
    | false =>
      have hz0 : sz d.letter ≠ 0 := by
        rcases letter_num hl hst hp with h | h | h
        · rw [h] at e1; exact absurd e1 (by decide)
        · rw [h] at e2; exact absurd e2 (by decide)
        · exact h
      (first | refine wX ?_ | exact wZ)
      refine callG (fixed_c d ub s a out len cap hz0 ha hs) [1] rfl ⟨rfl, trivial⟩ rfl ?_
      intro i hi
      (first | refine wX ?_ | exact wZ)
      exact ⟨i, hi, rfl, wkE_refl _, wkE_refl _, wkH_nil _⟩
end Go.Proofs.YtjkchonpnocffaaGreatDoor

/-
  What the rows list, and what it gives: the tables of utf8.
-/
namespace Go.Proofs.YtjkchonpnocffaaGreatDoor
open Go.ChangeShapes Go.WideShapes Go.ChangeAt Go.RowKit Go.AX
set_option maxRecDepth 100000

/-- What the rows list. -/
def laid3 : List (String × DataW Unit) := [("unicode/utf8.acceptRanges", Rows.laid_unicode_utf8_acceptRanges), ("unicode/utf8.first", Rows.laid_unicode_utf8_first)]
theorem door_met (os : Os) (args : Array Value) : laidMetH Tryz.prog laid3 ((World.laidAll Tryz.prog os laid3).forCall (fun _ _ => 0) ⟨#[], args, []⟩).memory := by
  rw [MakeChecks.laidMetH_plain _ _ _ (by kernel_rfl)]; exact laidMet_laidAll _ (by kernel_rfl) (by kernel_rfl)
theorem tabs_of {W : World} (h : laidMetH Tryz.prog laid3 W) : Lib.Utf8Tabs 1 2 W := by
  rw [MakeChecks.laidMetH_plain _ _ _ (by kernel_rfl)] at h
  have h1 : Lib.VarReads Tryz.prog W "unicode/utf8.first" Lib.firstData := by
    have := Lib.laidMet.reads h (n := "unicode/utf8.first") (d := Rows.laid_unicode_utf8_first) (.tail _ (.head _))
    rw [show Rows.laid_unicode_utf8_first = Lib.firstData from Pinned.utf8First_eq] at this
    exact this
  have h2 : Lib.VarReads Tryz.prog W "unicode/utf8.acceptRanges" Lib.acceptData := by
    have := Lib.laidMet.reads h (n := "unicode/utf8.acceptRanges") (d := Rows.laid_unicode_utf8_acceptRanges) (.head _)
    rw [show (Rows.laid_unicode_utf8_acceptRanges : DataW Unit) = Lib.acceptData by kernel_rfl] at this
    exact this
  exact Go.Proofs.utf8Tabs_of_reads (ρ := Tryz.lays260_ren) Tryz.lays260 ⟨by kernel_rfl, by kernel_rfl, by kernel_rfl, by kernel_rfl, by kernel_rfl, by kernel_rfl, by kernel_rfl⟩ h1 h2
theorem utf_imm {W : World} (h : UtfF W) : Imm (fun b => b < W.heap.size) W UtfF := by
  refine ⟨h, fun w' hw => ⟨?_, fun c hc => ?_, fun i hi => ⟨?_, ?_⟩⟩⟩
  · obtain ⟨m, hm⟩ := h.1
    exact ⟨m, cell?_keep hm (hw _ (cell?_lt hm))⟩
  · have hm := h.2.1 c hc
    exact cell?_keep hm (hw _ (cell?_lt hm))
  · have hm := (h.2.2 i hi).1
    exact cell?_keep hm (hw _ (cell?_lt hm))
  · have hm := (h.2.2 i hi).2
    exact cell?_keep hm (hw _ (cell?_lt hm))
theorem utf_of {W : World} (h : W.ShapedOpen Tryz.prog) (hL : laidMetH Tryz.prog laid3 W) : UtfF W := ⟨max_of h, tabs_of hL⟩
end Go.Proofs.YtjkchonpnocffaaGreatDoor

/-
  Plain Lean: numbers are read one by one.
-/
namespace Go.Pack
theorem runeD_pos {s : B} {n k : Nat} (h : runeD s = some (n, k)) : 1 ≤ k := by
  cases s with
  | nil => cases h
  | cons a r =>
    unfold runeD at h
    simp only at h
    split at h
    · cases h; exact Nat.le_refl _
    split at h
    · split at h
      · split at h
        · simp only [Option.some.injEq, Prod.mk.injEq] at h; omega
        · cases h
      · cases h
    split at h
    · split at h
      · split at h
        · simp only [Option.some.injEq, Prod.mk.injEq] at h; omega
        · cases h
      · cases h
    split at h
    · split at h
      · split at h
        · simp only [Option.some.injEq, Prod.mk.injEq] at h; omega
        · cases h
      · cases h
    · cases h
theorem grp_pos : ∀ (f n i : Nat) (s : B) (x : Int × Nat), grp f n i s = .ok x → i + 1 ≤ x.2
  | f, n, i, [], x, h => by cases f <;> cases h
  | 0, n, i, c :: r, x, h => by cases h
  | f + 1, n, i, c :: r, x, h => by
    unfold grp at h
    split at h
    · cases h
    split at h
    · cases h; exact Nat.le_refl _
    · have := grp_pos f _ (i + 1) r x h
      omega
theorem rdNum_pos {d : Dir} {s : B} {x : Int × Nat} (hz : d.letter = 119 ∨ d.letter = 85 ∨ sz d.letter ≠ 0) (h : rdNum d s = .ok x) : 1 ≤ x.2 := by
  unfold rdNum at h
  split at h
  · have := grp_pos _ _ _ _ _ h
    omega
  split at h
  · split at h
    · cases h
    split at h
    · rename_i n k hr
      cases h
      exact runeD_pos hr
    · cases h
  · rename_i h1 h2
    split at h
    · cases h
    split at h
    · cases h
      have : sz d.letter ≠ 0 := by
        rcases hz with h | h | h
        · exact absurd (by rw [h]; rfl) h1
        · exact absurd (by rw [h]; rfl) h2
        · exact h
      show 1 ≤ sz d.letter
      omega
    · cases h
theorem grp_err : ∀ (f n i : Nat) (s : B) (e : Int), grp f n i s = .error e → e ≠ 0
  | f, n, i, [], e, h => by cases f <;> cases h <;> decide
  | 0, n, i, c :: r, e, h => by cases h; decide
  | f + 1, n, i, c :: r, e, h => by
    unfold grp at h
    split at h
    · cases h; decide
    split at h
    · cases h
    · exact grp_err f _ (i + 1) r e h
theorem whl_err {d : Dir} {s : B} {e : Int} (h : whl d s = .error e) : e ≠ 0 := by
  unfold whl at h
  simp only at h
  generalize beN (if hi d = true then s else s.reverse) = u at h
  by_cases hg : sg d.letter = true
  · rw [if_pos hg] at h; cases h
  · rw [if_neg hg] at h
    by_cases hu : u < 2 ^ 63
    · rw [if_pos hu] at h; cases h
    · rw [if_neg hu] at h; cases h; decide
theorem rdNum_err {d : Dir} {s : B} {e : Int} (h : rdNum d s = .error e) : e ≠ 0 := by
  unfold rdNum at h
  split at h
  · exact grp_err _ _ _ _ _ h
  split at h
  · split at h
    · cases h; decide
    split at h
    · cases h
    · cases h; decide
  · split at h
    · cases h; decide
    split at h
    · cases h
    · rename_i e' he
      cases h
      exact whl_err he
end Go.Pack

/-
  Contracts: sizes, signs, what fits (document).
-/
namespace Go.Proofs.YtjkchonpnocffaaGreatDoor
open Go.AX Go.RowKit Go.Pack
set_option maxRecDepth 20000

theorem size_r (c : UInt8) : ∀ H, SpecH Tryz.prog 20 (pvs [.int .u8 (c.toNat : Int)]) H (Ret (.int .i64 (sz c : Nat)) H) := by
  refine pureC hm Tryz.func20 (by kernel_rfl) rfl rfl ?_
  have h67 : ((c.toNat : Int) == 67) = (c == 67) := u8_eq (n := 67) (by decide)
  have h99 : ((c.toNat : Int) == 99) = (c == 99) := u8_eq (n := 99) (by decide)
  have h83 : ((c.toNat : Int) == 83) = (c == 83) := u8_eq (n := 83) (by decide)
  have h115 : ((c.toNat : Int) == 115) = (c == 115) := u8_eq (n := 115) (by decide)
  have h110 : ((c.toNat : Int) == 110) = (c == 110) := u8_eq (n := 110) (by decide)
  have h76 : ((c.toNat : Int) == 76) = (c == 76) := u8_eq (n := 76) (by decide)
  have h108 : ((c.toNat : Int) == 108) = (c == 108) := u8_eq (n := 108) (by decide)
  have h78 : ((c.toNat : Int) == 78) = (c == 78) := u8_eq (n := 78) (by decide)
  have h81 : ((c.toNat : Int) == 81) = (c == 81) := u8_eq (n := 81) (by decide)
  have h113 : ((c.toNat : Int) == 113) = (c == 113) := u8_eq (n := 113) (by decide)
  (first | refine wX ?_ | exact wZ)
  rw [h67]
  cases e67 : c == 67 with
  | true =>
    (first | refine wX ?_ | exact wZ)
    simp [sz, e67]
  | false =>
    (first | refine wX ?_ | exact wZ)
    rw [h99]
    cases e99 : c == 99 with
    | true =>
      (first | refine wX ?_ | exact wZ)
      simp [sz, e67, e99]
    | false =>
      (first | refine wX ?_ | exact wZ)
      rw [h83]
      cases e83 : c == 83 with
      | true =>
        (first | refine wX ?_ | exact wZ)
        simp [sz, e67, e99, e83]
      | false =>
        (first | refine wX ?_ | exact wZ)
        rw [h115]
        cases e115 : c == 115 with
        | true =>
          (first | refine wX ?_ | exact wZ)
          simp [sz, e67, e99, e83, e115]
        | false =>
          (first | refine wX ?_ | exact wZ)
          rw [h110]
          cases e110 : c == 110 with
          | true =>
            (first | refine wX ?_ | exact wZ)
            simp [sz, e67, e99, e83, e115, e110]
          | false =>
            (first | refine wX ?_ | exact wZ)
            rw [h76]
            cases e76 : c == 76 with
            | true =>
              (first | refine wX ?_ | exact wZ)
              simp [sz, e67, e99, e83, e115, e110, e76]
            | false =>
              (first | refine wX ?_ | exact wZ)
              rw [h108]
              cases e108 : c == 108 with
              | true =>
                (first | refine wX ?_ | exact wZ)
                simp [sz, e67, e99, e83, e115, e110, e76, e108]
              | false =>
                (first | refine wX ?_ | exact wZ)
                rw [h78]
                cases e78 : c == 78 with
                | true =>
                  (first | refine wX ?_ | exact wZ)
                  simp [sz, e67, e99, e83, e115, e110, e76, e108, e78]
                | false =>
                  (first | refine wX ?_ | exact wZ)
                  rw [h81]
                  cases e81 : c == 81 with
                  | true =>
                    (first | refine wX ?_ | exact wZ)
                    simp [sz, e67, e99, e83, e115, e110, e76, e108, e78, e81]
                  | false =>
                    (first | refine wX ?_ | exact wZ)
                    rw [h113]
                    cases e113 : c == 113 with
                    | true =>
                      (first | refine wX ?_ | exact wZ)
                      simp [sz, e67, e99, e83, e115, e110, e76, e108, e78, e81, e113]
                    | false =>
                      (first | refine wX ?_ | exact wZ)
                      simp [sz, e67, e99, e83, e115, e110, e76, e108, e78, e81, e113]
theorem signed_r (c : UInt8) : ∀ H, SpecH Tryz.prog 66 (pvs [.int .u8 (c.toNat : Int)]) H (Ret (.bool (sg c)) H) := by
  refine pureC hm Tryz.func66 (by kernel_rfl) rfl rfl ?_
  have h99 : ((c.toNat : Int) == 99) = (c == 99) := u8_eq (n := 99) (by decide)
  have h115 : ((c.toNat : Int) == 115) = (c == 115) := u8_eq (n := 115) (by decide)
  have h108 : ((c.toNat : Int) == 108) = (c == 108) := u8_eq (n := 108) (by decide)
  have h113 : ((c.toNat : Int) == 113) = (c == 113) := u8_eq (n := 113) (by decide)
  (first | refine wX ?_ | exact wZ)
  rw [h99]
  cases e99 : c == 99 with
  | true =>
    (first | refine wX ?_ | exact wZ)
    simp [sg, e99]
  | false =>
    (first | refine wX ?_ | exact wZ)
    rw [h115]
    cases e115 : c == 115 with
    | true =>
      (first | refine wX ?_ | exact wZ)
      simp [sg, e99, e115]
    | false =>
      (first | refine wX ?_ | exact wZ)
      rw [h108]
      cases e108 : c == 108 with
      | true =>
        (first | refine wX ?_ | exact wZ)
        simp [sg, e99, e115, e108]
      | false =>
        (first | refine wX ?_ | exact wZ)
        rw [h113]
        cases e113 : c == 113 with
        | true =>
          (first | refine wX ?_ | exact wZ)
          simp [sg, e99, e115, e108, e113]
        | false =>
          (first | refine wX ?_ | exact wZ)
          simp [sg, e99, e115, e108, e113]
/-- A letter of numbers. -/
def numB (c : UInt8) : Bool := decide (0 < sz c) || c == 119 || c == 85
theorem number_r (c : UInt8) : ∀ H, SpecH Tryz.prog 19 (pvs [.int .u8 (c.toNat : Int)]) H (Ret (.bool (numB c)) H) := by
  refine pureC hm Tryz.func19 (by kernel_rfl) rfl rfl ?_
  have h119 : ((c.toNat : Int) == 119) = (c == 119) := u8_eq (n := 119) (by decide)
  have h85 : ((c.toNat : Int) == 85) = (c == 85) := u8_eq (n := 85) (by decide)
  (first | refine wX ?_ | exact wZ)
  refine call1 (size_r c _) ?_
  (first | refine wX ?_ | exact wZ)
  refine brd_dec (fun h => ?_) (fun h => ?_)
  · have h0 : 0 < sz c := by omega
    (first | refine wX ?_ | exact wZ)
    simp [numB, h0]
  · have h0 : ¬ 0 < sz c := by omega
    (first | refine wX ?_ | exact wZ)
    rw [h119]
    cases e119 : c == 119 with
    | true =>
      (first | refine wX ?_ | exact wZ)
      simp [numB, e119]
    | false =>
      (first | refine wX ?_ | exact wZ)
      rw [h85]
      cases e85 : c == 85 with
      | true =>
        (first | refine wX ?_ | exact wZ)
        simp [numB, e85]
      | false =>
        (first | refine wX ?_ | exact wZ)
        simp [numB, h0, e119, e85]
theorem Has_r (n : Int) : ∀ H, SpecH Tryz.prog 88 (pvs [.int .i64 n, .int .i64 2]) H (Ret (.bool (rune n)) H) := by
  refine pureC hm Tryz.func88 (by kernel_rfl) rfl rfl ?_
  (first | refine wX ?_ | exact wZ)
  refine brd_dec (fun h0 => ?_) (fun h0 => ?_)
  · (first | refine wX ?_ | exact wZ)
    refine brd_dec (fun h1 => ?_) (fun h1 => ?_)
    · (first | refine wX ?_ | exact wZ)
      refine brd_dec (fun h2 => ?_) (fun h2 => ?_)
      · (first | refine wX ?_ | exact wZ)
        simp [rune, show 0 ≤ n from h0, show n ≤ 1114111 from h1, show n < 55296 from h2]
      · (first | refine wX ?_ | exact wZ)
        simp [rune, show 0 ≤ n from h0, show n ≤ 1114111 from h1, show ¬ n < 55296 from h2]
    · (first | refine wX ?_ | exact wZ)
      simp [rune, show ¬ n ≤ 1114111 from h1]
  · (first | refine wX ?_ | exact wZ)
    simp [rune, show ¬ 0 ≤ n from h0]
theorem digit_r (c : UInt8) : ∀ H, SpecH Tryz.prog 100 (pvs [.int .u8 (c.toNat : Int)]) H (Ret (.int .i64 (match hexV c with | some x => (x : Int) | none => -1)) H) := by
  refine pureC hm Tryz.func100 (by kernel_rfl) rfl rfl ?_
  (first | refine wX ?_ | exact wZ)
  refine call1 (IndexByte_c [48, 49, 50, 51, 52, 53, 54, 55, 56, 57, 97, 98, 99, 100, 101, 102] c _) ?_
  (first | refine wX ?_ | exact wZ)
  rw [hex_index]
  rfl
end Go.Proofs.YtjkchonpnocffaaGreatDoor

/-
  Contracts: what fits, characters, bytes turned (document).
-/
namespace Go.Proofs.YtjkchonpnocffaaGreatDoor
open Go.AX Go.RowKit Go.Pack
set_option maxRecDepth 20000

theorem size_l (c : UInt8) (k : Nat) (h : sz c = k) : ∀ H, SpecH Tryz.prog 20 (pvs [.int .u8 (c.toNat : Int)]) H (Ret (.int .i64 (k : Nat)) H) := by
  subst h
  exact size_r c
theorem sign_l (c : UInt8) (k : Bool) (h : sg c = k) : ∀ H, SpecH Tryz.prog 66 (pvs [.int .u8 (c.toNat : Int)]) H (Ret (.bool k) H) := by
  subst h
  exact signed_r c
/-- What fits a letter. -/
def fitR (c : UInt8) (n : Int) : Bool := if c == 85 then rune n else if c == 119 then decide (0 ≤ n) else fit c n
theorem fits_r (c : UInt8) (n : Int) (h : c = 119 ∨ c = 85 ∨ sz c ≠ 0) : ∀ H, SpecH Tryz.prog 68 (pvs [.int .u8 (c.toNat : Int), .int .i64 n]) H (Ret (.bool (fitR c n)) H) := by
  refine pureC hm Tryz.func68 (by kernel_rfl) rfl rfl ?_
  rcases h with rfl | rfl | h
  · (first | refine wX ?_ | exact wZ)
    refine call1 (size_l 119 0 rfl _) ?_
    (first | refine wX ?_ | exact wZ)
    refine call1 (sign_l 119 false rfl _) ?_
    (first | refine wX ?_ | exact wZ)
    refine brd_dec (fun h1 => ?_) (fun h1 => ?_)
    · (first | refine wX ?_ | exact wZ)
      rw [show fitR 119 n = decide (0 ≤ n) from rfl, decide_eq_true h1]
    · (first | refine wX ?_ | exact wZ)
      rw [show fitR 119 n = decide (0 ≤ n) from rfl, decide_eq_false h1]
  · (first | refine wX ?_ | exact wZ)
    refine call1 (Has_r n _) ?_
    (first | refine wX ?_ | exact wZ)
    rfl
  rcases sz_cases h with rfl | rfl | rfl | rfl | rfl | rfl | rfl | rfl | rfl | rfl
  · (first | refine wX ?_ | exact wZ)
    refine call1 (size_l 67 1 rfl _) ?_
    (first | refine wX ?_ | exact wZ)
    refine call1 (sign_l 67 false rfl _) ?_
    (first | refine wX ?_ | exact wZ)
    refine brd_dec (fun h1 => ?_) (fun h1 => ?_)
    · (first | refine wX ?_ | exact wZ)
      rw [show fitR 67 n = (decide (0 ≤ n) && decide (n < 256)) from rfl, decide_eq_true h1]
      rfl
    · (first | refine wX ?_ | exact wZ)
      rw [show fitR 67 n = (decide (0 ≤ n) && decide (n < 256)) from rfl, decide_eq_false h1]
      rfl
  · (first | refine wX ?_ | exact wZ)
    refine call1 (size_l 99 1 rfl _) ?_
    (first | refine wX ?_ | exact wZ)
    refine call1 (sign_l 99 true rfl _) ?_
    (first | refine wX ?_ | exact wZ)
    rw [show IntKind.i64.wrap (0 - IntKind.i64.wrap (1 * 2 ^ min (IntKind.i64.wrap (8 * ((1 : Nat) : Int) - 1)).toNat IntKind.i64.bits)) = -128 from rfl]
    refine brd_dec (fun h1 => ?_) (fun h1 => ?_)
    · (first | refine wX ?_ | exact wZ)
      rw [show fitR 99 n = (decide (-128 ≤ n) && decide (n < 128)) from rfl, decide_eq_true h1]
      rfl
    · (first | refine wX ?_ | exact wZ)
      rw [show fitR 99 n = (decide (-128 ≤ n) && decide (n < 128)) from rfl, decide_eq_false h1]
      rfl
  · (first | refine wX ?_ | exact wZ)
    refine call1 (size_l 83 2 rfl _) ?_
    (first | refine wX ?_ | exact wZ)
    refine call1 (sign_l 83 false rfl _) ?_
    (first | refine wX ?_ | exact wZ)
    refine brd_dec (fun h1 => ?_) (fun h1 => ?_)
    · (first | refine wX ?_ | exact wZ)
      rw [show fitR 83 n = (decide (0 ≤ n) && decide (n < 65536)) from rfl, decide_eq_true h1]
      rfl
    · (first | refine wX ?_ | exact wZ)
      rw [show fitR 83 n = (decide (0 ≤ n) && decide (n < 65536)) from rfl, decide_eq_false h1]
      rfl
  · (first | refine wX ?_ | exact wZ)
    refine call1 (size_l 115 2 rfl _) ?_
    (first | refine wX ?_ | exact wZ)
    refine call1 (sign_l 115 true rfl _) ?_
    (first | refine wX ?_ | exact wZ)
    rw [show IntKind.i64.wrap (0 - IntKind.i64.wrap (1 * 2 ^ min (IntKind.i64.wrap (8 * ((2 : Nat) : Int) - 1)).toNat IntKind.i64.bits)) = -32768 from rfl]
    refine brd_dec (fun h1 => ?_) (fun h1 => ?_)
    · (first | refine wX ?_ | exact wZ)
      rw [show fitR 115 n = (decide (-32768 ≤ n) && decide (n < 32768)) from rfl, decide_eq_true h1]
      rfl
    · (first | refine wX ?_ | exact wZ)
      rw [show fitR 115 n = (decide (-32768 ≤ n) && decide (n < 32768)) from rfl, decide_eq_false h1]
      rfl
  · (first | refine wX ?_ | exact wZ)
    refine call1 (size_l 110 2 rfl _) ?_
    (first | refine wX ?_ | exact wZ)
    refine call1 (sign_l 110 false rfl _) ?_
    (first | refine wX ?_ | exact wZ)
    refine brd_dec (fun h1 => ?_) (fun h1 => ?_)
    · (first | refine wX ?_ | exact wZ)
      rw [show fitR 110 n = (decide (0 ≤ n) && decide (n < 65536)) from rfl, decide_eq_true h1]
      rfl
    · (first | refine wX ?_ | exact wZ)
      rw [show fitR 110 n = (decide (0 ≤ n) && decide (n < 65536)) from rfl, decide_eq_false h1]
      rfl
  · (first | refine wX ?_ | exact wZ)
    refine call1 (size_l 76 4 rfl _) ?_
    (first | refine wX ?_ | exact wZ)
    refine call1 (sign_l 76 false rfl _) ?_
    (first | refine wX ?_ | exact wZ)
    refine brd_dec (fun h1 => ?_) (fun h1 => ?_)
    · (first | refine wX ?_ | exact wZ)
      rw [show fitR 76 n = (decide (0 ≤ n) && decide (n < 4294967296)) from rfl, decide_eq_true h1]
      rfl
    · (first | refine wX ?_ | exact wZ)
      rw [show fitR 76 n = (decide (0 ≤ n) && decide (n < 4294967296)) from rfl, decide_eq_false h1]
      rfl
  · (first | refine wX ?_ | exact wZ)
    refine call1 (size_l 108 4 rfl _) ?_
    (first | refine wX ?_ | exact wZ)
    refine call1 (sign_l 108 true rfl _) ?_
    (first | refine wX ?_ | exact wZ)
    rw [show IntKind.i64.wrap (0 - IntKind.i64.wrap (1 * 2 ^ min (IntKind.i64.wrap (8 * ((4 : Nat) : Int) - 1)).toNat IntKind.i64.bits)) = -2147483648 from rfl]
    refine brd_dec (fun h1 => ?_) (fun h1 => ?_)
    · (first | refine wX ?_ | exact wZ)
      rw [show fitR 108 n = (decide (-2147483648 ≤ n) && decide (n < 2147483648)) from rfl, decide_eq_true h1]
      rfl
    · (first | refine wX ?_ | exact wZ)
      rw [show fitR 108 n = (decide (-2147483648 ≤ n) && decide (n < 2147483648)) from rfl, decide_eq_false h1]
      rfl
  · (first | refine wX ?_ | exact wZ)
    refine call1 (size_l 78 4 rfl _) ?_
    (first | refine wX ?_ | exact wZ)
    refine call1 (sign_l 78 false rfl _) ?_
    (first | refine wX ?_ | exact wZ)
    refine brd_dec (fun h1 => ?_) (fun h1 => ?_)
    · (first | refine wX ?_ | exact wZ)
      rw [show fitR 78 n = (decide (0 ≤ n) && decide (n < 4294967296)) from rfl, decide_eq_true h1]
      rfl
    · (first | refine wX ?_ | exact wZ)
      rw [show fitR 78 n = (decide (0 ≤ n) && decide (n < 4294967296)) from rfl, decide_eq_false h1]
      rfl
  · (first | refine wX ?_ | exact wZ)
    refine call1 (size_l 81 8 rfl _) ?_
    (first | refine wX ?_ | exact wZ)
    refine call1 (sign_l 81 false rfl _) ?_
    (first | refine wX ?_ | exact wZ)
    refine brd_dec (fun h1 => ?_) (fun h1 => ?_)
    · (first | refine wX ?_ | exact wZ)
      rw [show fitR 81 n = decide (0 ≤ n) from rfl, decide_eq_true h1]
    · (first | refine wX ?_ | exact wZ)
      rw [show fitR 81 n = decide (0 ≤ n) from rfl, decide_eq_false h1]
  · (first | refine wX ?_ | exact wZ)
    refine call1 (size_l 113 8 rfl _) ?_
    (first | refine wX ?_ | exact wZ)
    rfl
end Go.Proofs.YtjkchonpnocffaaGreatDoor

/-
  Contracts: the bytes of a character; bytes turned (document).
-/
namespace Go.Proofs.YtjkchonpnocffaaGreatDoor
open Go.AX Go.RowKit Go.Pack
set_option maxRecDepth 20000

theorem SlAt.eq {a : Option Addr} {k : Nat} {xs ys : List Value} {w : World} (h : SlAt a k xs w) (e : xs = ys) : SlAt a k ys w := e ▸ h
theorem Bytes_r (z : Int) (n : Nat) (hz : z = n) (hr : rune (n : Int) = true) : ∀ H, SpecH Tryz.prog 89 (pvs [.int .i64 z, .int .i64 2]) H (Ret (.string (bs (utf n))) H) := by
  refine pureC hm Tryz.func89 (by kernel_rfl) rfl rfl ?_
  have hn : n ≤ 1114111 := by simp [rune] at hr; omega
  have q (k : Nat) : z.tdiv (k : Int) = ((n / k : Nat) : Int) := by rw [hz]; exact (Int.ofNat_tdiv n k).symm
  have m (k : Nat) : z.tmod (k : Int) = ((n % k : Nat) : Int) := by rw [hz]; exact (Int.ofNat_tmod n k).symm
  have q64 : z.tdiv 64 = ((n / 64 : Nat) : Int) := q 64
  have q4 : z.tdiv 4096 = ((n / 4096 : Nat) : Int) := q 4096
  have q2 : z.tdiv 262144 = ((n / 262144 : Nat) : Int) := q 262144
  have m64 : z.tmod 64 = ((n % 64 : Nat) : Int) := m 64
  have mm (k : Nat) : Int.tmod (k : Int) 64 = ((k % 64 : Nat) : Int) := (Int.ofNat_tmod k 64).symm
  have l1 : IntKind.u8.wrap (IntKind.i64.wrap (128 + z.tmod 64)) = ((128 + n % 64 : Nat) : Int) := by rw [m64, wrap_i64 (by omega), wrap_u8 (by omega)]; omega
  have l2 : n < 2048 → IntKind.u8.wrap (IntKind.i64.wrap (192 + IntKind.i64.wrap (z.tdiv 64))) = ((192 + n / 64 : Nat) : Int) := fun h => by rw [q64, wrap_i64 (x := ((n / 64 : Nat) : Int)) (by omega), wrap_i64 (by omega), wrap_u8 (by omega)]; omega
  have l3 : IntKind.u8.wrap (IntKind.i64.wrap (128 + (IntKind.i64.wrap (z.tdiv 64)).tmod 64)) = ((128 + n / 64 % 64 : Nat) : Int) := by rw [q64, wrap_i64 (x := ((n / 64 : Nat) : Int)) (by omega), mm, wrap_i64 (by omega), wrap_u8 (by omega)]; omega
  have l4 : n < 65536 → IntKind.u8.wrap (IntKind.i64.wrap (224 + IntKind.i64.wrap (z.tdiv 4096))) = ((224 + n / 4096 : Nat) : Int) := fun h => by rw [q4, wrap_i64 (x := ((n / 4096 : Nat) : Int)) (by omega), wrap_i64 (by omega), wrap_u8 (by omega)]; omega
  have l5 : IntKind.u8.wrap (IntKind.i64.wrap (128 + (IntKind.i64.wrap (z.tdiv 4096)).tmod 64)) = ((128 + n / 4096 % 64 : Nat) : Int) := by rw [q4, wrap_i64 (x := ((n / 4096 : Nat) : Int)) (by omega), mm, wrap_i64 (by omega), wrap_u8 (by omega)]; omega
  have l6 : IntKind.u8.wrap (IntKind.i64.wrap (240 + IntKind.i64.wrap (z.tdiv 262144))) = ((240 + n / 262144 : Nat) : Int) := by rw [q2, wrap_i64 (x := ((n / 262144 : Nat) : Int)) (by omega), wrap_i64 (by omega), wrap_u8 (by omega)]; omega
  ((conv => whnf); (repeat ((first | refine BoxN.own ?_ | refine VrN.norm (wrap_i64 (by omega)) ?_ | refine VrN.keep ?_ | refine DrawN.calm (by decide +kernel) ?_ | refine Nd.mk (by decide +kernel) ?_ | refine Nd.mk (by omega) ?_ | (refine Nd.mk ?_ ?_; focus ((repeat' (first | exact trivial | exact wkE_refl _ | refine And.intro ?_ ?_)); done)) | refine RdN.intro _ rfl (by rfl) ?_); (conv => whnf))))
  refine brd_dec (fun h1 => ?_) (fun h1 => ?_)
  · have hu : utf n = [UInt8.ofNat n] := by unfold utf; rw [if_pos (by omega)]
    rw [hu]
    -- [UInt8.ofNat n]: the bytes, rw [wrap_u8 (by omega), hz]; show [_] = [Value.int .u8 ((UInt8.ofNat n).toNat : Int)]; rw [ofNat_int (by omega)]: that the cells are they
    ((conv => whnf); (repeat ((first | refine BoxN.own ?_ | refine VrN.norm (wrap_i64 (by omega)) ?_ | refine VrN.keep ?_ | refine DrawN.calm (by decide +kernel) ?_ | refine Nd.mk (by decide +kernel) ?_ | refine Nd.mk (by omega) ?_ | (refine Nd.mk ?_ ?_; focus ((repeat' (first | exact trivial | exact wkE_refl _ | refine And.intro ?_ ?_)); done)) | refine RdN.intro _ rfl (by rfl) ?_); (conv => whnf))))
    refine RwN.known _ rfl fun b => ?_
    (first | refine wX ?_ | exact wZ)
    refine ReadW.bytes [UInt8.ofNat n] rfl rfl rfl rfl rfl rfl (fun w hw => SlAt.eq hw.1 (by rw [wrap_u8 (by omega), hz]; show [_] = [Value.int .u8 ((UInt8.ofNat n).toNat : Int)]; rw [ofNat_int (by omega)])) ?_
    (first | refine wX ?_ | exact wZ)
    rfl
  · (first | refine wX ?_ | exact wZ)
    rw [l1]
    refine brd_dec (fun h2 => ?_) (fun h2 => ?_)
    · have hu : utf n = [UInt8.ofNat (192 + n / 64), UInt8.ofNat (128 + n % 64)] := by unfold utf; rw [if_neg (by omega), if_pos (by omega)]
      rw [hu]
      -- [UInt8.ofNat (192 + n / 64), UInt8.ofNat (128 + n % 64)]: the bytes, rw [l2 (by omega), byteV (n := 192 + n / 64) (by omega), byteV (n := 128 + n % 64) (by omega)]; rfl: that the cells are they
      ((conv => whnf); (repeat ((first | refine BoxN.own ?_ | refine VrN.norm (wrap_i64 (by omega)) ?_ | refine VrN.keep ?_ | refine DrawN.calm (by decide +kernel) ?_ | refine Nd.mk (by decide +kernel) ?_ | refine Nd.mk (by omega) ?_ | (refine Nd.mk ?_ ?_; focus ((repeat' (first | exact trivial | exact wkE_refl _ | refine And.intro ?_ ?_)); done)) | refine RdN.intro _ rfl (by rfl) ?_); (conv => whnf))))
      refine RwN.known _ rfl fun b => ?_
      (first | refine wX ?_ | exact wZ)
      refine ReadW.bytes [UInt8.ofNat (192 + n / 64), UInt8.ofNat (128 + n % 64)] rfl rfl rfl rfl rfl rfl (fun w hw => SlAt.eq hw.1 (by rw [l2 (by omega), byteV (n := 192 + n / 64) (by omega), byteV (n := 128 + n % 64) (by omega)]; rfl)) ?_
      (first | refine wX ?_ | exact wZ)
      rfl
    · (first | refine wX ?_ | exact wZ)
      rw [l3]
      refine brd_dec (fun h3 => ?_) (fun h3 => ?_)
      · have hu : utf n = [UInt8.ofNat (224 + n / 4096), UInt8.ofNat (128 + n / 64 % 64), UInt8.ofNat (128 + n % 64)] := by unfold utf; rw [if_neg (by omega), if_neg (by omega), if_pos (by omega)]
        rw [hu]
        -- [UInt8.ofNat (224 + n / 4096), UInt8.ofNat (128 + n / 64 % 64), UInt8.ofNat (128 + n % 64)]: the bytes, rw [l4 (by omega), byteV (n := 224 + n / 4096) (by omega), byteV (n := 128 + n / 64 % 64) (by omega), byteV (n := 128 + n % 64) (by omega)]; rfl: that the cells are they
        ((conv => whnf); (repeat ((first | refine BoxN.own ?_ | refine VrN.norm (wrap_i64 (by omega)) ?_ | refine VrN.keep ?_ | refine DrawN.calm (by decide +kernel) ?_ | refine Nd.mk (by decide +kernel) ?_ | refine Nd.mk (by omega) ?_ | (refine Nd.mk ?_ ?_; focus ((repeat' (first | exact trivial | exact wkE_refl _ | refine And.intro ?_ ?_)); done)) | refine RdN.intro _ rfl (by rfl) ?_); (conv => whnf))))
        refine RwN.known _ rfl fun b => ?_
        (first | refine wX ?_ | exact wZ)
        refine ReadW.bytes [UInt8.ofNat (224 + n / 4096), UInt8.ofNat (128 + n / 64 % 64), UInt8.ofNat (128 + n % 64)] rfl rfl rfl rfl rfl rfl (fun w hw => SlAt.eq hw.1 (by rw [l4 (by omega), byteV (n := 224 + n / 4096) (by omega), byteV (n := 128 + n / 64 % 64) (by omega), byteV (n := 128 + n % 64) (by omega)]; rfl)) ?_
        (first | refine wX ?_ | exact wZ)
        rfl
      · have hu : utf n = [UInt8.ofNat (240 + n / 262144), UInt8.ofNat (128 + n / 4096 % 64), UInt8.ofNat (128 + n / 64 % 64), UInt8.ofNat (128 + n % 64)] := by unfold utf; rw [if_neg (by omega), if_neg (by omega), if_neg (by omega)]
        rw [hu]
        -- [UInt8.ofNat (240 + n / 262144), UInt8.ofNat (128 + n / 4096 % 64), UInt8.ofNat (128 + n / 64 % 64), UInt8.ofNat (128 + n % 64)]: the bytes, rw [l6, l5, byteV (n := 240 + n / 262144) (by omega), byteV (n := 128 + n / 4096 % 64) (by omega), byteV (n := 128 + n / 64 % 64) (by omega), byteV (n := 128 + n % 64) (by omega)]; rfl: that the cells are they
        ((conv => whnf); (repeat ((first | refine BoxN.own ?_ | refine VrN.norm (wrap_i64 (by omega)) ?_ | refine VrN.keep ?_ | refine DrawN.calm (by decide +kernel) ?_ | refine Nd.mk (by decide +kernel) ?_ | refine Nd.mk (by omega) ?_ | (refine Nd.mk ?_ ?_; focus ((repeat' (first | exact trivial | exact wkE_refl _ | refine And.intro ?_ ?_)); done)) | refine RdN.intro _ rfl (by rfl) ?_); (conv => whnf))))
        refine RwN.known _ rfl fun b => ?_
        (first | refine wX ?_ | exact wZ)
        refine ReadW.bytes [UInt8.ofNat (240 + n / 262144), UInt8.ofNat (128 + n / 4096 % 64), UInt8.ofNat (128 + n / 64 % 64), UInt8.ofNat (128 + n % 64)] rfl rfl rfl rfl rfl rfl (fun w hw => SlAt.eq hw.1 (by rw [l6, l5, byteV (n := 240 + n / 262144) (by omega), byteV (n := 128 + n / 4096 % 64) (by omega), byteV (n := 128 + n / 64 % 64) (by omega), byteV (n := 128 + n % 64) (by omega)]; rfl)) ?_
        (first | refine wX ?_ | exact wZ)
        rfl
theorem turned_r (l : List UInt8) (ob : Option Nat) (cap : Nat) (hob : ob = none → l = []) (hl : l.length ≤ 1000000) :
    SpecH Tryz.prog 65 [.c (.v (.slice (at0 ob) l.length cap))] [.app 5 1 (u8s l) (at0 ob) l.length cap]
      (RetG (ι := Option Nat × Nat) (fun i => (i.1 = none → l.reverse = [] ∧ i.2 = 0) ∧ l.reverse.length ≤ i.2) (fun i => .slice (at0 i.1) l.reverse.length i.2) fun i => [.app 5 1 (u8s l) (at0 ob) l.length cap, .app 5 1 (u8s l.reverse) (at0 i.1) l.reverse.length i.2]) := by
  refine ownC hm Tryz.func65 (by kernel_rfl) rfl rfl (fun _ _ => okHB_eq rfl) (fun _ _ => Nat.le_of_ble_eq_true rfl) ?_
  (first | refine wX ?_ | exact wZ)
  refine LoopN.intro (Nat × Option Nat × Nat) (fun ⟨j, ob', cap'⟩ => j ≤ l.length ∧ ((ob' = none → l.reverse.take j = [] ∧ cap' = 0) ∧ (l.reverse.take j).length ≤ cap'))
    (fun ⟨j, ob', cap'⟩ => mkS Tryz.f65.ntmps 0 [(0, .c (.v (.slice (at0 ob) l.length cap))), (3, .c (.v (.slice (at0 ob') (l.reverse.take j).length cap'))), (4, .c (.v (.int .i64 ((l.length : Int) - 1 - j))))])
    (fun ⟨j, ob', cap'⟩ => [.app 5 1 (u8s l) (at0 ob) l.length cap, .app 5 1 (u8s (l.reverse.take j)) (at0 ob') (l.reverse.take j).length cap']) (fun ⟨j, _, _⟩ => l.length - j) [.app 0 0 [] none 0 0] rfl
    (fun _ => rfl) (fun _ => rfl) (fun _ _ => okHB_eq rfl) ⟨(0, none, 0), ⟨Nat.zero_le _, fun _ => ⟨rfl, rfl⟩, Nat.le_refl _⟩, ?_, ?_⟩ ?_
  · (repeat' (first | exact trivial | refine And.intro (by with_reducible rfl) ?_ | (with_reducible exact wkC_refl _) | (with_reducible exact wkCs_refl _) | refine And.intro ?_ ?_))
    all_goals first | rfl | exact av_int (by first | omega | (rw [wrap_i64 (by omega)]; omega))
  · exact ⟨wkE_refl _, wkE_nil, wkH_nil _⟩
  rintro ⟨j, ob', cap'⟩ ⟨hj, hob'⟩
  (first | refine wX ?_ | exact wZ)
  refine brd_dec (fun h1 => ?_) (fun h1 => ?_)
  · obtain ⟨c, hc⟩ : ∃ c, l.reverse[j]? = some c := ⟨_, List.getElem?_eq_getElem (by rw [List.length_reverse]; omega)⟩
    have hc2 : l[l.length - 1 - j]? = some c := by
      rw [List.getElem?_reverse (by omega)] at hc
      exact hc
    have hsn : l.reverse.take (j + 1) = l.reverse.take j ++ [c] := Pack.take_snoc hc
    obtain ⟨g, rfl⟩ : ∃ g, ob = some g := by
      cases ob with
      | none => rw [hob rfl] at hc; cases hc
      | some g => exact ⟨g, rfl⟩
    have hlt : (l.reverse.take j).length ≤ 1000000 := by rw [List.length_take, List.length_reverse]; omega
    (first | refine wX ?_ | exact wZ)
    refine Nd.mk ⟨rfl, by omega, by omega⟩ ?_
    (first | refine wX ?_ | exact wZ)
    refine LdN.one (.int .u8 (c.toNat : Int)) rfl (fun w hw => hw.1) (by
      show (u8s l)[((l.length : Int) - 1 - j).toNat * 1]? = _
      rw [Nat.mul_one, show ((l.length : Int) - 1 - j).toNat = l.length - 1 - j by omega]
      exact u8s_at hc2) ?_
    (first | refine wX ?_ | exact wZ)
    refine Nd.mk ⟨Nat.le_refl 1, rfl, rfl⟩ ?_
    (conv => whnf)
    refine AppN.grow 1 (u8s (l.reverse.take j)) [_] rfl rfl ⟨Nat.le_refl 1, ⟨by show ((l.reverse.take j).length + 1) * 1 ≤ _; omega, by omega⟩, by show 1 ≠ 0; omega⟩ fun b' cap2 h2 h3 => ?_
    have hsl : (l.reverse.take j).length + 1 = (l.reverse.take (j + 1)).length := by rw [hsn, List.length_append]; rfl
    rw [hsl] at h2
    (first | refine wX ?_ | exact wZ)
    refine ⟨(j + 1, some b', cap2), ⟨by omega, fun h => (by cases h), h2⟩, by show l.length - (j + 1) < l.length - j; omega, ?_, ?_⟩
    · (repeat' (first | exact trivial | refine And.intro (by with_reducible rfl) ?_ | (with_reducible exact wkC_refl _) | (with_reducible exact wkCs_refl _) | refine And.intro ?_ ?_))
      all_goals first | (rw [← hsl]; rfl) | exact av_int (by first | omega | (rw [wrap_i64 (by omega)]; omega))
    · exact ⟨wkE_refl _, .inl ⟨rfl, rfl, by rw [hsn]; simp [u8s], rfl, hsl, rfl⟩, wkH_nil _⟩
  · have hje : l.reverse.take j = l.reverse := List.take_of_length_le (by rw [List.length_reverse]; omega)
    rw [hje] at hob' ⊢
    (first | refine wX ?_ | exact wZ)
    exact ⟨(ob', cap'), hob', rfl, wkE_refl _, wkE_refl _, wkH_nil _⟩
end Go.Proofs.YtjkchonpnocffaaGreatDoor

/-
  Contracts: hex digits (document).
-/
namespace Go.Proofs.YtjkchonpnocffaaGreatDoor
open Go.AX Go.RowKit Go.Pack
set_option maxRecDepth 20000

theorem u8s_last (o : List UInt8) (c e : UInt8) : (u8s (o ++ [c])).take o.length ++ [.int .u8 (e.toNat : Int)] ++ (u8s (o ++ [c])).drop (o.length + 1) = u8s (o ++ [e]) := by
  have h := u8s_put (l := o ++ [c]) (k := o.length) e (by simp)
  rw [h]
  congr 1
  simp
theorem hexed_r (s : List UInt8) (count : Int) (n : Nat) (hn : count = -1 ∧ n = s.length ∨ count = n) (hs : s.length ≤ 140737488351232) (hn2 : n ≤ 140737488351232) :
    SpecF Tryz.prog 90 [.string (bs s), .int .i64 count] (fun _ => True) (WrR (hexS n s)) := by
  refine specF hm Tryz.func90 (by kernel_rfl) rfl rfl ?_
  have hzs := bs_size s
  have hS : hexS n s = match hexI (digs n s) n with | some l => .ok l | none => .error 1 := by unfold hexS; rw [hexI_end]; rfl
  (first | refine wX ?_ | exact wZ)
  refine brd_eq (fun h1 => ?_) (fun h1 => ?_)
  · have hcn : count = -1 ∧ n = s.length ∨ count ≠ -1 ∧ count = n := by omega
    (first | refine wX ?_ | exact wZ)
    refine LoopN.intro (Nat × List UInt8 × Option Nat × Nat) (fun ⟨i, out, ob, cap⟩ => i ≤ n ∧ hexI (digs n s) i = some out ∧ ((ob = none → out = [] ∧ cap = 0) ∧ out.length ≤ cap) ∧ out.length ≤ i)
      (fun ⟨i, out, ob, cap⟩ => mkS Tryz.f90.ntmps 0 [(0, .c (.v (.string (bs s)))), (6, .c (.v (.int .i64 (n : Int)))), (7, .c (.v (.slice (at0 ob) out.length cap))), (8, .c (.v (.int .i64 (i : Int))))])
      (fun ⟨_, out, ob, cap⟩ => [.fact fun _ => True, .app 5 1 (u8s out) (at0 ob) out.length cap]) (fun ⟨i, _, _, _⟩ => n - i) [.app 0 0 [] none 0 0] rfl
      (fun _ => rfl) (fun _ => rfl) (fun _ _ => okHB_eq rfl) ⟨(0, [], none, 0), ⟨Nat.zero_le _, rfl, ⟨fun _ => ⟨rfl, rfl⟩, Nat.le_refl _⟩, Nat.le_refl _⟩, ?_, ?_⟩ ?_
    · (repeat' (first | exact trivial | refine And.intro (by with_reducible rfl) ?_ | (with_reducible exact wkC_refl _) | (with_reducible exact wkCs_refl _) | refine And.intro ?_ ?_))
      all_goals first | rfl | exact av_int (by omega)
    · exact ⟨wkE_refl _, wkE_nil, wkH_nil _⟩
    rintro ⟨i, out, ob, cap⟩ ⟨hi, hI, hob, hol0⟩
    have hm2 : Int.tmod (i : Int) 2 = ((i % 2 : Nat) : Int) := (Int.ofNat_tmod i 2).symm
    (first | refine wX ?_ | exact wZ)
    refine brd_dec (fun h2 => ?_) (fun h2 => ?_)
    · have hdg := digs_get n s i (by omega)
      by_cases his : i < s.length
      · obtain ⟨c, hcs⟩ : ∃ c, s[i]? = some c := ⟨_, List.getElem?_eq_getElem his⟩
        have hc : (digs n s)[i]? = some c := by rw [hdg, dif_pos his, ← (List.getElem?_eq_some_iff.1 hcs).2]
        have hbc : byteAt (bs s) (Int.toNat (i : Int)) = (c.toNat : Int) := by rw [Int.toNat_natCast]; exact byteAt_get hcs
        (first | refine wX ?_ | exact wZ)
        rw [hzs]
        refine brd_dec (fun _ => ?_) (fun h => absurd (by omega) h)
        (first | refine wX ?_ | exact wZ)
        rw [hbc]
        refine call1 (digit_r c _) ?_
        cases hv : hexV c with
        | none =>
          have hbad : hexS n s = .error 1 := by unfold hexS; rw [hexT_bad hc hv]
          rw [hbad]
          (first | refine wX ?_ | exact wZ)
          exact fin_v rfl
        | some x =>
          (first | refine wX ?_ | exact wZ)
          -- x: the digit's value, (x : Int): as an Int
          have h16 : x < 16 := hexV_lt hv
          refine brd_eq (fun he => ?_) (fun he => ?_)
          · have hev : i % 2 = 0 := by rw [hm2] at he; omega
            have hnx := hexI_even hev hc hv hI
            (first | refine wX ?_ | exact wZ)
            try refine Nd.mk ⟨Nat.le_refl 1, rfl, rfl⟩ ?_
            (conv => whnf)
            refine AppN.grow 1 (u8s out) [_] rfl rfl ⟨Nat.le_refl 1, ⟨by show (out.length + 1) * 1 ≤ _; omega, by omega⟩, by show 1 ≠ 0; omega⟩ fun b' cap2 h2 h3 => ?_
            (first | refine wX ?_ | exact wZ)
            refine ⟨(i + 1, out ++ [UInt8.ofNat (16 * x)], some b', cap2), ⟨by omega, hnx, ⟨fun h => (by cases h), by rw [List.length_append]; exact h2⟩, by rw [List.length_append]; show out.length + 1 ≤ i + 1; omega⟩, by show n - (i + 1) < n - i; omega, ?_, ?_⟩
            · (repeat' (first | exact trivial | refine And.intro (by with_reducible rfl) ?_ | (with_reducible exact wkC_refl _) | (with_reducible exact wkCs_refl _) | refine And.intro ?_ ?_))
              all_goals first | rfl | (rw [List.length_append]; rfl) | exact av_int (by first | omega | (rw [wrap_i64 (by omega)]; omega))
            · refine ⟨wkE_refl _, .inl ⟨rfl, rfl, ?_, rfl, by rw [List.length_append]; rfl, rfl⟩, wkH_nil _⟩
              have hb9 : IntKind.u8.wrap (IntKind.i64.wrap (16 * ((x : Int)))) = ((16 * x : Nat) : Int) := by rw [wrap_i64 (by omega), wrap_u8 (by omega)]; omega
              have hb8 : IntKind.u8.wrap (16 * ((x : Int))) = ((16 * x : Nat) : Int) := by rw [wrap_u8 (by omega)]; omega
              show u8s out ++ [Value.int .u8 _] = _
              first | rw [hb9] | rw [hb8]
              rw [byteV (n := 16 * x) (by omega)]
              simp [u8s]
          · have hod : i % 2 = 1 := by rw [hm2] at he; omega
            obtain ⟨o, y, hy, ho, hnx⟩ := hexI_odd hod hc hv hI
            subst ho
            obtain ⟨g, rfl⟩ : ∃ g, ob = some g := by
              cases ob with
              | none => exact absurd (hob.1 rfl).1 (by simp)
              | some g => exact ⟨g, rfl⟩
            have hol : (o ++ [UInt8.ofNat (16 * y)]).length = o.length + 1 := by rw [List.length_append]; rfl
            rw [hol]
            have hcell : (u8s (o ++ [UInt8.ofNat (16 * y)]))[o.length]? = some (.int .u8 (((UInt8.ofNat (16 * y)).toNat : Nat) : Int)) := u8s_at (by simp)
            have hw9 : IntKind.i64.wrap (((o.length + 1 : Nat) : Int) - 1) = (o.length : Int) := by rw [wrap_i64 (by omega)]; omega
            (first | refine wX ?_ | exact wZ)
            rw [hw9]
            try refine Nd.mk ⟨rfl, by omega, by omega⟩ ?_
            (first | refine wX ?_ | exact wZ)
            refine LdN.one (.int .u8 (((UInt8.ofNat (16 * y)).toNat : Nat) : Int)) rfl (fun w hw => hw.2.1) (by
              show (u8s (o ++ [UInt8.ofNat (16 * y)]))[Int.toNat _ * 1]? = _
              rw [Nat.mul_one, Int.toNat_natCast]
              exact hcell) ?_
            (first | refine wX ?_ | exact wZ)
            try rw [hw9]
            try refine Nd.mk ⟨rfl, by omega, by omega⟩ ?_
            (first | refine wX ?_ | exact wZ)
            refine EffW.appTo (i := 1) (q := o.length) (ys := [_]) (u8s (o ++ [UInt8.ofNat (16 * y + x)])) 1 rfl (ptr_lit rfl (by show Int.toNat (o.length : Int) * 1 = o.length; omega)) rfl rfl rfl rfl rfl (by show o.length + 1 ≤ (o.length + 1) * 1; omega) (by
              have h7 : IntKind.u8.wrap ((((UInt8.ofNat (16 * y)).toNat : Nat) : Int) + IntKind.u8.wrap ((x : Int))) = (((UInt8.ofNat (16 * y + x)).toNat : Nat) : Int) := by
                rw [ofNat_int (by omega), ofNat_int (by omega), wrap_u8 (x := (x : Int)) (by omega), wrap_u8 (by omega)]
                omega
              show (u8s _).take _ ++ [Value.int .u8 (IntKind.u8.wrap (_ + IntKind.u8.wrap ((x : Int))))] ++ (u8s _).drop (o.length + 1) = _
              rw [h7]
              exact u8s_last _ _ _) rfl ?_
            (first | refine wX ?_ | exact wZ)
            have hol2 : (o ++ [UInt8.ofNat (16 * y + x)]).length = o.length + 1 := by rw [List.length_append]; rfl
            refine ⟨(i + 1, o ++ [UInt8.ofNat (16 * y + x)], some g, cap), ⟨by omega, hnx, ⟨fun h => (by cases h), by rw [hol2, ← hol]; exact hob.2⟩, by omega⟩, by show n - (i + 1) < n - i; omega, ?_, ?_⟩
            · (repeat' (first | exact trivial | refine And.intro (by with_reducible rfl) ?_ | (with_reducible exact wkC_refl _) | (with_reducible exact wkCs_refl _) | refine And.intro ?_ ?_))
              all_goals first | rfl | (rw [hol2]; done) | exact av_int (by first | omega | (rw [wrap_i64 (by omega)]; omega))
            · exact ⟨wkE_refl _, .inl ⟨rfl, rfl, rfl, rfl, hol2.symm, rfl⟩, wkH_nil _⟩
      · have hc : (digs n s)[i]? = some 48 := by rw [hdg, dif_neg his]
        have hv : hexV 48 = some 0 := rfl
        (first | refine wX ?_ | exact wZ)
        rw [hzs]
        refine brd_dec (fun h => absurd h (by omega)) (fun _ => ?_)
        (first | refine wX ?_ | exact wZ)
        -- 0: the digit's value, 0: as an Int
        have h16 : 0 < 16 := hexV_lt hv
        refine brd_eq (fun he => ?_) (fun he => ?_)
        · have hev : i % 2 = 0 := by rw [hm2] at he; omega
          have hnx := hexI_even hev hc hv hI
          (first | refine wX ?_ | exact wZ)
          try refine Nd.mk ⟨Nat.le_refl 1, rfl, rfl⟩ ?_
          (conv => whnf)
          refine AppN.grow 1 (u8s out) [_] rfl rfl ⟨Nat.le_refl 1, ⟨by show (out.length + 1) * 1 ≤ _; omega, by omega⟩, by show 1 ≠ 0; omega⟩ fun b' cap2 h2 h3 => ?_
          (first | refine wX ?_ | exact wZ)
          refine ⟨(i + 1, out ++ [UInt8.ofNat (16 * 0)], some b', cap2), ⟨by omega, hnx, ⟨fun h => (by cases h), by rw [List.length_append]; exact h2⟩, by rw [List.length_append]; show out.length + 1 ≤ i + 1; omega⟩, by show n - (i + 1) < n - i; omega, ?_, ?_⟩
          · (repeat' (first | exact trivial | refine And.intro (by with_reducible rfl) ?_ | (with_reducible exact wkC_refl _) | (with_reducible exact wkCs_refl _) | refine And.intro ?_ ?_))
            all_goals first | rfl | (rw [List.length_append]; rfl) | exact av_int (by first | omega | (rw [wrap_i64 (by omega)]; omega))
          · refine ⟨wkE_refl _, .inl ⟨rfl, rfl, ?_, rfl, by rw [List.length_append]; rfl, rfl⟩, wkH_nil _⟩
            have hb9 : IntKind.u8.wrap (IntKind.i64.wrap (16 * (0))) = ((16 * 0 : Nat) : Int) := by rw [wrap_i64 (by omega), wrap_u8 (by omega)]; omega
            have hb8 : IntKind.u8.wrap (16 * (0)) = ((16 * 0 : Nat) : Int) := by rw [wrap_u8 (by omega)]; omega
            show u8s out ++ [Value.int .u8 _] = _
            first | rw [hb9] | rw [hb8]
            rw [byteV (n := 16 * 0) (by omega)]
            simp [u8s]
        · have hod : i % 2 = 1 := by rw [hm2] at he; omega
          obtain ⟨o, y, hy, ho, hnx⟩ := hexI_odd hod hc hv hI
          subst ho
          obtain ⟨g, rfl⟩ : ∃ g, ob = some g := by
            cases ob with
            | none => exact absurd (hob.1 rfl).1 (by simp)
            | some g => exact ⟨g, rfl⟩
          have hol : (o ++ [UInt8.ofNat (16 * y)]).length = o.length + 1 := by rw [List.length_append]; rfl
          rw [hol]
          have hcell : (u8s (o ++ [UInt8.ofNat (16 * y)]))[o.length]? = some (.int .u8 (((UInt8.ofNat (16 * y)).toNat : Nat) : Int)) := u8s_at (by simp)
          have hw9 : IntKind.i64.wrap (((o.length + 1 : Nat) : Int) - 1) = (o.length : Int) := by rw [wrap_i64 (by omega)]; omega
          (first | refine wX ?_ | exact wZ)
          rw [hw9]
          try refine Nd.mk ⟨rfl, by omega, by omega⟩ ?_
          (first | refine wX ?_ | exact wZ)
          refine LdN.one (.int .u8 (((UInt8.ofNat (16 * y)).toNat : Nat) : Int)) rfl (fun w hw => hw.2.1) (by
            show (u8s (o ++ [UInt8.ofNat (16 * y)]))[Int.toNat _ * 1]? = _
            rw [Nat.mul_one, Int.toNat_natCast]
            exact hcell) ?_
          (first | refine wX ?_ | exact wZ)
          try rw [hw9]
          try refine Nd.mk ⟨rfl, by omega, by omega⟩ ?_
          (first | refine wX ?_ | exact wZ)
          refine EffW.appTo (i := 1) (q := o.length) (ys := [_]) (u8s (o ++ [UInt8.ofNat (16 * y + 0)])) 1 rfl (ptr_lit rfl (by show Int.toNat (o.length : Int) * 1 = o.length; omega)) rfl rfl rfl rfl rfl (by show o.length + 1 ≤ (o.length + 1) * 1; omega) (by
            have h7 : IntKind.u8.wrap ((((UInt8.ofNat (16 * y)).toNat : Nat) : Int) + IntKind.u8.wrap (0)) = (((UInt8.ofNat (16 * y + 0)).toNat : Nat) : Int) := by
              rw [ofNat_int (by omega), ofNat_int (by omega), wrap_u8 (x := 0) (by omega), wrap_u8 (by omega)]
              omega
            show (u8s _).take _ ++ [Value.int .u8 (IntKind.u8.wrap (_ + IntKind.u8.wrap (0)))] ++ (u8s _).drop (o.length + 1) = _
            rw [h7]
            exact u8s_last _ _ _) rfl ?_
          (first | refine wX ?_ | exact wZ)
          have hol2 : (o ++ [UInt8.ofNat (16 * y + 0)]).length = o.length + 1 := by rw [List.length_append]; rfl
          refine ⟨(i + 1, o ++ [UInt8.ofNat (16 * y + 0)], some g, cap), ⟨by omega, hnx, ⟨fun h => (by cases h), by rw [hol2, ← hol]; exact hob.2⟩, by omega⟩, by show n - (i + 1) < n - i; omega, ?_, ?_⟩
          · (repeat' (first | exact trivial | refine And.intro (by with_reducible rfl) ?_ | (with_reducible exact wkC_refl _) | (with_reducible exact wkCs_refl _) | refine And.intro ?_ ?_))
            all_goals first | rfl | (rw [hol2]; done) | exact av_int (by first | omega | (rw [wrap_i64 (by omega)]; omega))
          · exact ⟨wkE_refl _, .inl ⟨rfl, rfl, rfl, rfl, hol2.symm, rfl⟩, wkH_nil _⟩
    · have hin : i = n := by omega
      rw [hin] at hI
      rw [hS, hI]
      (first | refine wX ?_ | exact wZ)
      exact fin_p _ ⟨_, rfl, ob, cap, rfl, fun h => (hob.1 h).1, fun w hw => by simpa using hw⟩ (fun w hw => hw.2.1)
  · have hcn : count = -1 ∧ n = s.length ∨ count ≠ -1 ∧ count = n := by omega
    (first | refine wX ?_ | exact wZ)
    refine LoopN.intro (Nat × List UInt8 × Option Nat × Nat) (fun ⟨i, out, ob, cap⟩ => i ≤ n ∧ hexI (digs n s) i = some out ∧ ((ob = none → out = [] ∧ cap = 0) ∧ out.length ≤ cap) ∧ out.length ≤ i)
      (fun ⟨i, out, ob, cap⟩ => mkS Tryz.f90.ntmps 0 [(0, .c (.v (.string (bs s)))), (6, .c (.v (.int .i64 (n : Int)))), (7, .c (.v (.slice (at0 ob) out.length cap))), (8, .c (.v (.int .i64 (i : Int))))])
      (fun ⟨_, out, ob, cap⟩ => [.fact fun _ => True, .app 5 1 (u8s out) (at0 ob) out.length cap]) (fun ⟨i, _, _, _⟩ => n - i) [.app 0 0 [] none 0 0] rfl
      (fun _ => rfl) (fun _ => rfl) (fun _ _ => okHB_eq rfl) ⟨(0, [], none, 0), ⟨Nat.zero_le _, rfl, ⟨fun _ => ⟨rfl, rfl⟩, Nat.le_refl _⟩, Nat.le_refl _⟩, ?_, ?_⟩ ?_
    · (repeat' (first | exact trivial | refine And.intro (by with_reducible rfl) ?_ | (with_reducible exact wkC_refl _) | (with_reducible exact wkCs_refl _) | refine And.intro ?_ ?_))
      all_goals first | rfl | exact av_int (by omega)
    · exact ⟨wkE_refl _, wkE_nil, wkH_nil _⟩
    rintro ⟨i, out, ob, cap⟩ ⟨hi, hI, hob, hol0⟩
    have hm2 : Int.tmod (i : Int) 2 = ((i % 2 : Nat) : Int) := (Int.ofNat_tmod i 2).symm
    (first | refine wX ?_ | exact wZ)
    refine brd_dec (fun h2 => ?_) (fun h2 => ?_)
    · have hdg := digs_get n s i (by omega)
      by_cases his : i < s.length
      · obtain ⟨c, hcs⟩ : ∃ c, s[i]? = some c := ⟨_, List.getElem?_eq_getElem his⟩
        have hc : (digs n s)[i]? = some c := by rw [hdg, dif_pos his, ← (List.getElem?_eq_some_iff.1 hcs).2]
        have hbc : byteAt (bs s) (Int.toNat (i : Int)) = (c.toNat : Int) := by rw [Int.toNat_natCast]; exact byteAt_get hcs
        (first | refine wX ?_ | exact wZ)
        rw [hzs]
        refine brd_dec (fun _ => ?_) (fun h => absurd (by omega) h)
        (first | refine wX ?_ | exact wZ)
        rw [hbc]
        refine call1 (digit_r c _) ?_
        cases hv : hexV c with
        | none =>
          have hbad : hexS n s = .error 1 := by unfold hexS; rw [hexT_bad hc hv]
          rw [hbad]
          (first | refine wX ?_ | exact wZ)
          exact fin_v rfl
        | some x =>
          (first | refine wX ?_ | exact wZ)
          -- x: the digit's value, (x : Int): as an Int
          have h16 : x < 16 := hexV_lt hv
          refine brd_eq (fun he => ?_) (fun he => ?_)
          · have hev : i % 2 = 0 := by rw [hm2] at he; omega
            have hnx := hexI_even hev hc hv hI
            (first | refine wX ?_ | exact wZ)
            try refine Nd.mk ⟨Nat.le_refl 1, rfl, rfl⟩ ?_
            (conv => whnf)
            refine AppN.grow 1 (u8s out) [_] rfl rfl ⟨Nat.le_refl 1, ⟨by show (out.length + 1) * 1 ≤ _; omega, by omega⟩, by show 1 ≠ 0; omega⟩ fun b' cap2 h2 h3 => ?_
            (first | refine wX ?_ | exact wZ)
            refine ⟨(i + 1, out ++ [UInt8.ofNat (16 * x)], some b', cap2), ⟨by omega, hnx, ⟨fun h => (by cases h), by rw [List.length_append]; exact h2⟩, by rw [List.length_append]; show out.length + 1 ≤ i + 1; omega⟩, by show n - (i + 1) < n - i; omega, ?_, ?_⟩
            · (repeat' (first | exact trivial | refine And.intro (by with_reducible rfl) ?_ | (with_reducible exact wkC_refl _) | (with_reducible exact wkCs_refl _) | refine And.intro ?_ ?_))
              all_goals first | rfl | (rw [List.length_append]; rfl) | exact av_int (by first | omega | (rw [wrap_i64 (by omega)]; omega))
            · refine ⟨wkE_refl _, .inl ⟨rfl, rfl, ?_, rfl, by rw [List.length_append]; rfl, rfl⟩, wkH_nil _⟩
              have hb9 : IntKind.u8.wrap (IntKind.i64.wrap (16 * ((x : Int)))) = ((16 * x : Nat) : Int) := by rw [wrap_i64 (by omega), wrap_u8 (by omega)]; omega
              have hb8 : IntKind.u8.wrap (16 * ((x : Int))) = ((16 * x : Nat) : Int) := by rw [wrap_u8 (by omega)]; omega
              show u8s out ++ [Value.int .u8 _] = _
              first | rw [hb9] | rw [hb8]
              rw [byteV (n := 16 * x) (by omega)]
              simp [u8s]
          · have hod : i % 2 = 1 := by rw [hm2] at he; omega
            obtain ⟨o, y, hy, ho, hnx⟩ := hexI_odd hod hc hv hI
            subst ho
            obtain ⟨g, rfl⟩ : ∃ g, ob = some g := by
              cases ob with
              | none => exact absurd (hob.1 rfl).1 (by simp)
              | some g => exact ⟨g, rfl⟩
            have hol : (o ++ [UInt8.ofNat (16 * y)]).length = o.length + 1 := by rw [List.length_append]; rfl
            rw [hol]
            have hcell : (u8s (o ++ [UInt8.ofNat (16 * y)]))[o.length]? = some (.int .u8 (((UInt8.ofNat (16 * y)).toNat : Nat) : Int)) := u8s_at (by simp)
            have hw9 : IntKind.i64.wrap (((o.length + 1 : Nat) : Int) - 1) = (o.length : Int) := by rw [wrap_i64 (by omega)]; omega
            (first | refine wX ?_ | exact wZ)
            rw [hw9]
            try refine Nd.mk ⟨rfl, by omega, by omega⟩ ?_
            (first | refine wX ?_ | exact wZ)
            refine LdN.one (.int .u8 (((UInt8.ofNat (16 * y)).toNat : Nat) : Int)) rfl (fun w hw => hw.2.1) (by
              show (u8s (o ++ [UInt8.ofNat (16 * y)]))[Int.toNat _ * 1]? = _
              rw [Nat.mul_one, Int.toNat_natCast]
              exact hcell) ?_
            (first | refine wX ?_ | exact wZ)
            try rw [hw9]
            try refine Nd.mk ⟨rfl, by omega, by omega⟩ ?_
            (first | refine wX ?_ | exact wZ)
            refine EffW.appTo (i := 1) (q := o.length) (ys := [_]) (u8s (o ++ [UInt8.ofNat (16 * y + x)])) 1 rfl (ptr_lit rfl (by show Int.toNat (o.length : Int) * 1 = o.length; omega)) rfl rfl rfl rfl rfl (by show o.length + 1 ≤ (o.length + 1) * 1; omega) (by
              have h7 : IntKind.u8.wrap ((((UInt8.ofNat (16 * y)).toNat : Nat) : Int) + IntKind.u8.wrap ((x : Int))) = (((UInt8.ofNat (16 * y + x)).toNat : Nat) : Int) := by
                rw [ofNat_int (by omega), ofNat_int (by omega), wrap_u8 (x := (x : Int)) (by omega), wrap_u8 (by omega)]
                omega
              show (u8s _).take _ ++ [Value.int .u8 (IntKind.u8.wrap (_ + IntKind.u8.wrap ((x : Int))))] ++ (u8s _).drop (o.length + 1) = _
              rw [h7]
              exact u8s_last _ _ _) rfl ?_
            (first | refine wX ?_ | exact wZ)
            have hol2 : (o ++ [UInt8.ofNat (16 * y + x)]).length = o.length + 1 := by rw [List.length_append]; rfl
            refine ⟨(i + 1, o ++ [UInt8.ofNat (16 * y + x)], some g, cap), ⟨by omega, hnx, ⟨fun h => (by cases h), by rw [hol2, ← hol]; exact hob.2⟩, by omega⟩, by show n - (i + 1) < n - i; omega, ?_, ?_⟩
            · (repeat' (first | exact trivial | refine And.intro (by with_reducible rfl) ?_ | (with_reducible exact wkC_refl _) | (with_reducible exact wkCs_refl _) | refine And.intro ?_ ?_))
              all_goals first | rfl | (rw [hol2]; done) | exact av_int (by first | omega | (rw [wrap_i64 (by omega)]; omega))
            · exact ⟨wkE_refl _, .inl ⟨rfl, rfl, rfl, rfl, hol2.symm, rfl⟩, wkH_nil _⟩
      · have hc : (digs n s)[i]? = some 48 := by rw [hdg, dif_neg his]
        have hv : hexV 48 = some 0 := rfl
        (first | refine wX ?_ | exact wZ)
        rw [hzs]
        refine brd_dec (fun h => absurd h (by omega)) (fun _ => ?_)
        (first | refine wX ?_ | exact wZ)
        -- 0: the digit's value, 0: as an Int
        have h16 : 0 < 16 := hexV_lt hv
        refine brd_eq (fun he => ?_) (fun he => ?_)
        · have hev : i % 2 = 0 := by rw [hm2] at he; omega
          have hnx := hexI_even hev hc hv hI
          (first | refine wX ?_ | exact wZ)
          try refine Nd.mk ⟨Nat.le_refl 1, rfl, rfl⟩ ?_
          (conv => whnf)
          refine AppN.grow 1 (u8s out) [_] rfl rfl ⟨Nat.le_refl 1, ⟨by show (out.length + 1) * 1 ≤ _; omega, by omega⟩, by show 1 ≠ 0; omega⟩ fun b' cap2 h2 h3 => ?_
          (first | refine wX ?_ | exact wZ)
          refine ⟨(i + 1, out ++ [UInt8.ofNat (16 * 0)], some b', cap2), ⟨by omega, hnx, ⟨fun h => (by cases h), by rw [List.length_append]; exact h2⟩, by rw [List.length_append]; show out.length + 1 ≤ i + 1; omega⟩, by show n - (i + 1) < n - i; omega, ?_, ?_⟩
          · (repeat' (first | exact trivial | refine And.intro (by with_reducible rfl) ?_ | (with_reducible exact wkC_refl _) | (with_reducible exact wkCs_refl _) | refine And.intro ?_ ?_))
            all_goals first | rfl | (rw [List.length_append]; rfl) | exact av_int (by first | omega | (rw [wrap_i64 (by omega)]; omega))
          · refine ⟨wkE_refl _, .inl ⟨rfl, rfl, ?_, rfl, by rw [List.length_append]; rfl, rfl⟩, wkH_nil _⟩
            have hb9 : IntKind.u8.wrap (IntKind.i64.wrap (16 * (0))) = ((16 * 0 : Nat) : Int) := by rw [wrap_i64 (by omega), wrap_u8 (by omega)]; omega
            have hb8 : IntKind.u8.wrap (16 * (0)) = ((16 * 0 : Nat) : Int) := by rw [wrap_u8 (by omega)]; omega
            show u8s out ++ [Value.int .u8 _] = _
            first | rw [hb9] | rw [hb8]
            rw [byteV (n := 16 * 0) (by omega)]
            simp [u8s]
        · have hod : i % 2 = 1 := by rw [hm2] at he; omega
          obtain ⟨o, y, hy, ho, hnx⟩ := hexI_odd hod hc hv hI
          subst ho
          obtain ⟨g, rfl⟩ : ∃ g, ob = some g := by
            cases ob with
            | none => exact absurd (hob.1 rfl).1 (by simp)
            | some g => exact ⟨g, rfl⟩
          have hol : (o ++ [UInt8.ofNat (16 * y)]).length = o.length + 1 := by rw [List.length_append]; rfl
          rw [hol]
          have hcell : (u8s (o ++ [UInt8.ofNat (16 * y)]))[o.length]? = some (.int .u8 (((UInt8.ofNat (16 * y)).toNat : Nat) : Int)) := u8s_at (by simp)
          have hw9 : IntKind.i64.wrap (((o.length + 1 : Nat) : Int) - 1) = (o.length : Int) := by rw [wrap_i64 (by omega)]; omega
          (first | refine wX ?_ | exact wZ)
          rw [hw9]
          try refine Nd.mk ⟨rfl, by omega, by omega⟩ ?_
          (first | refine wX ?_ | exact wZ)
          refine LdN.one (.int .u8 (((UInt8.ofNat (16 * y)).toNat : Nat) : Int)) rfl (fun w hw => hw.2.1) (by
            show (u8s (o ++ [UInt8.ofNat (16 * y)]))[Int.toNat _ * 1]? = _
            rw [Nat.mul_one, Int.toNat_natCast]
            exact hcell) ?_
          (first | refine wX ?_ | exact wZ)
          try rw [hw9]
          try refine Nd.mk ⟨rfl, by omega, by omega⟩ ?_
          (first | refine wX ?_ | exact wZ)
          refine EffW.appTo (i := 1) (q := o.length) (ys := [_]) (u8s (o ++ [UInt8.ofNat (16 * y + 0)])) 1 rfl (ptr_lit rfl (by show Int.toNat (o.length : Int) * 1 = o.length; omega)) rfl rfl rfl rfl rfl (by show o.length + 1 ≤ (o.length + 1) * 1; omega) (by
            have h7 : IntKind.u8.wrap ((((UInt8.ofNat (16 * y)).toNat : Nat) : Int) + IntKind.u8.wrap (0)) = (((UInt8.ofNat (16 * y + 0)).toNat : Nat) : Int) := by
              rw [ofNat_int (by omega), ofNat_int (by omega), wrap_u8 (x := 0) (by omega), wrap_u8 (by omega)]
              omega
            show (u8s _).take _ ++ [Value.int .u8 (IntKind.u8.wrap (_ + IntKind.u8.wrap (0)))] ++ (u8s _).drop (o.length + 1) = _
            rw [h7]
            exact u8s_last _ _ _) rfl ?_
          (first | refine wX ?_ | exact wZ)
          have hol2 : (o ++ [UInt8.ofNat (16 * y + 0)]).length = o.length + 1 := by rw [List.length_append]; rfl
          refine ⟨(i + 1, o ++ [UInt8.ofNat (16 * y + 0)], some g, cap), ⟨by omega, hnx, ⟨fun h => (by cases h), by rw [hol2, ← hol]; exact hob.2⟩, by omega⟩, by show n - (i + 1) < n - i; omega, ?_, ?_⟩
          · (repeat' (first | exact trivial | refine And.intro (by with_reducible rfl) ?_ | (with_reducible exact wkC_refl _) | (with_reducible exact wkCs_refl _) | refine And.intro ?_ ?_))
            all_goals first | rfl | (rw [hol2]; done) | exact av_int (by first | omega | (rw [wrap_i64 (by omega)]; omega))
          · exact ⟨wkE_refl _, .inl ⟨rfl, rfl, rfl, rfl, hol2.symm, rfl⟩, wkH_nil _⟩
    · have hin : i = n := by omega
      rw [hin] at hI
      rw [hS, hI]
      (first | refine wX ?_ | exact wZ)
      exact fin_p _ ⟨_, rfl, ob, cap, rfl, fun h => (hob.1 h).1, fun w hw => by simpa using hw⟩ (fun w hw => hw.2.1)
end Go.Proofs.YtjkchonpnocffaaGreatDoor

/-
  Contract: the numbers of a directive are read (program).
-/
namespace Go.Proofs.YtjkchonpnocffaaGreatDoor
open Go.AX Go.RowKit Go.Pack
set_option maxRecDepth 20000

/-- What a reader leaves: items, where they lie, where it stands, the error. -/
structure NSt where
  l : List Pack.Item
  ob : Option Nat
  cap : Nat
  at_ : Nat
  e : Int
def itemsE (l : List Pack.Item) (ob : Option Nat) (cap : Nat) : Ent := .app 44 3 (itemsC l) (at0 ob) l.length cap
def NSt.ok (d : Dir) (s : List UInt8) (a : Nat) (l : List Pack.Item) (i : NSt) : Prop :=
  i.at_ ≤ s.length ∧ (i.ob = none → i.l = [] ∧ i.cap = 0) ∧ i.l.length ≤ i.cap ∧ i.l.length ≤ l.length + 1000001 ∧
    match numsS d (s.drop a) with | .ok (ns, r) => i.e = 0 ∧ i.l = l ++ ns.map intI ∧ s.drop i.at_ = r | .error e => i.e = e ∧ e ≠ 0
theorem itemsC_snoc (l : List Pack.Item) (x : Pack.Item) : itemsC l ++ itemC x = itemsC (l ++ [x]) := by simp [itemsC]
theorem allN_succ (d : Dir) (f : Nat) (s : List UInt8) (out : List Int) : allN d (f + 1) s out = if s.length < max 1 (sz d.letter) then .ok (out, s) else match rdNum d s with | .error e => .error e | .ok (n, k) => allN d f (s.drop k) (out ++ [n]) := rfl
theorem cntN_succ (d : Dir) (f : Nat) (s : List UInt8) (out : List Int) : cntN d (f + 1) s out = match rdNum d s with | .error e => .error e | .ok (n, k) => cntN d f (s.drop k) (out ++ [n]) := rfl
theorem numbers_c (d : Dir) (ub : Nat) (s : List UInt8) (a : Nat) (l : List Pack.Item) (ob : Option Nat) (cap : Nat) (hl : letters.contains d.letter = true) (hst : isStr d.letter = false) (hp : isPl d.letter = false) (hc : CntOk d.letter d.count)
    (hob : (ob = none → l = [] ∧ cap = 0) ∧ l.length ≤ cap) (hll : l.length ≤ 100000000) (ha : a ≤ s.length) (hs : s.length ≤ 1000000) :
    SpecH Tryz.prog 17 [.c (.v (.pointer (some ⟨ub, 0, none⟩))), .c (.v (dirV d))] [.fact UtfF, unE ub s a ob l.length cap, itemsE l ob cap]
      (RetG (NSt.ok d s a l) (fun i => .int .i64 i.e) fun i => [.fact UtfF, unE ub s i.at_ i.ob i.l.length i.cap, itemsE i.l i.ob i.cap]) := by
  refine ownC hm Tryz.func17 (by kernel_rfl) rfl rfl (fun _ _ => okHB_eq rfl) (fun _ _ => Nat.le_refl _) ?_
  have hz := letter_num hl hst hp
  have h8 := sz_le8 d.letter
  (first | refine wX ?_ | exact wZ)
  refine brd_eq (fun hk => ?_) (fun hk => ?_)
  · have hk1 : ¬ d.count = -1 := by omega
    have hcn : cntS d 0 = 1 := by unfold cntS; rw [if_pos hk]
    -- so many numbers: 1
    have hN : numsS d (s.drop a) = cntN d (1) (s.drop a) [] := by unfold numsS; rw [if_neg hk1, hcn]
    have hz := letter_num hl hst hp
    (first | refine wX ?_ | exact wZ)
    refine LoopN.intro (Nat × Nat × List Int × List Pack.Item × Option Nat × Nat) (fun ⟨j, at', ns, l', ob', cap'⟩ => at' ≤ s.length ∧ j ≤ 1 ∧ l' = l ++ ns.map intI ∧ ns.length = j ∧ ((ob' = none → l' = [] ∧ cap' = 0) ∧ l'.length ≤ cap') ∧ cntN d (1 - j) (s.drop at') ns = cntN d (1) (s.drop a) [])
      (fun ⟨j, _, _, _, _, _⟩ => mkS Tryz.f17.ntmps 0 [(0, .c (.v (.pointer (some ⟨ub, 0, none⟩)))), (3, .c (.lp 3 0)), (5, .c (.v (.int .i64 ((1 : Nat) : Int)))), (6, .c (.v (.int .i64 (j : Int))))])
      (fun ⟨_, at', _, l', ob', cap'⟩ => [.fact UtfF, unE ub s at' ob' l'.length cap', itemsE l' ob' cap', .blk 58 [.v (.int .u8 (d.letter.toNat : Int)), .v (.bool d.big), .v (.int .i64 d.count)]]) (fun ⟨j, _, _, _, _, _⟩ => 1 - j) [] rfl
      (fun _ => rfl) (fun _ => rfl) (fun _ _ => okHB_eq rfl) ⟨(0, a, [], l, ob, cap), ⟨ha, Nat.zero_le _, by simp, rfl, hob, rfl⟩, ?_, ?_⟩ ?_
    · (repeat' (first | exact trivial | refine And.intro (by with_reducible rfl) ?_ | (with_reducible exact wkC_refl _) | (with_reducible exact wkCs_refl _) | refine And.intro ?_ ?_))
      all_goals first | rfl | exact av_int (by omega)
    · exact ⟨wkE_refl _, wkE_refl _, wkE_refl _, wkE_refl _, wkH_nil _⟩
    rintro ⟨j, at', ns, l', ob', cap'⟩ ⟨hat, hja, hl', hns, hob', hgo⟩
    have hns2 : (ns.map intI).length = j := by simp [hns]
    have hlen : l'.length ≤ l.length + 1000001 := by rw [hl', List.length_append]; omega
    (first | refine wX ?_ | exact wZ)
    refine brd_ne (fun h1 => ?_) (fun h1 => ?_)
    · (first | refine wX ?_ | exact wZ)
      try refine brd_eq (fun h => absurd h hk1) (fun _ => ?_)
      rw [show 1 - j = (1 - j - 1) + 1 by omega, cntN_succ d (1 - j - 1) (s.drop at') ns] at hgo
      -- one number more: state (j, at, ns, l', ob', cap'); by rw [show 1 - (j + 1) = 1 - j - 1 by omega, ← hgo, List.drop_drop]: the times (an Int), by show 1 - (j + 1) < 1 - j; omega: what to do with an error, $3: what to do with a number
      (first | refine wX ?_ | exact wZ)
      refine callG (number_u d ub s at' ob' l'.length cap' hl hst hp hat hs) [0, 1] rfl ⟨rfl, rfl, trivial⟩ rfl ?_
      rintro ⟨n, e, at2⟩ hok
      cases hr : rdNum d (s.drop at') with
      | error e0 =>
        rw [hr] at hok hgo
        obtain ⟨h7, h8, h9⟩ := hok
        simp only at h7 h8 h9
        subst h7; subst h8
        have he := rdNum_err hr
        (first | refine wX ?_ | exact wZ)
        refine brd_ne (fun _ => ?_) (fun h6 => absurd h6 he)
        (first | refine wX ?_ | exact wZ)
        refine ⟨⟨l', ob', cap', at2, e⟩, ⟨h9, hob'.1, hob'.2, hlen, ?_⟩, rfl, wkE_refl _, wkE_refl _, wkE_refl _, wkH_nil _⟩
        rw [hN, ← hgo]
        exact ⟨rfl, he⟩
      | ok x =>
        obtain ⟨n0, k⟩ := x
        have hk := rdNum_pos hz hr
        rw [hr] at hok hgo
        obtain ⟨h7, h9⟩ := hok
        injection h7 with h7 h8
        injection h8 with h8 h10
        subst h7; subst h8; subst h10
        simp only at hgo hk
        (first | refine wX ?_ | exact wZ)
        refine LdN.one (a := some ⟨ub, 0, none⟩) (q := 2) (.slice (at0 ob') l'.length cap') rfl (fun w hw => hw.2.1) rfl ?_
        (first | refine wX ?_ | exact wZ)
        refine Nd.mk ⟨Nat.le_refl 1, rfl, rfl⟩ ?_
        (conv => whnf)
        refine AppN.grow 2 (itemsC l') (itemC (intI n)) rfl rfl ⟨Nat.le_refl 1, ⟨by show (l'.length + 1) * 32 ≤ _; omega, by omega⟩, by show 3 ≠ 0; omega⟩ fun b' cap2 h11 h12 => ?_
        (first | refine wX ?_ | exact wZ)
        refine EffW.appTo (i := 1) (q := 2) (ys := [_]) (unC s (at' + k) (some b') (l'.length + 1) cap2) 3 rfl rfl rfl rfl rfl rfl rfl (Nat.le_of_ble_eq_true rfl) rfl rfl ?_
        (first | refine wX ?_ | exact wZ)
        have hl3 : l' ++ [intI n] = l ++ (ns ++ [n]).map intI := by rw [hl']; simp
        refine ⟨(j + 1, at' + k, ns ++ [n], l' ++ [intI n], some b', cap2), ⟨h9, by omega, hl3, by simp; omega, ⟨fun h => (by cases h), by rw [List.length_append]; exact h11⟩, by rw [show 1 - (j + 1) = 1 - j - 1 by omega, ← hgo, List.drop_drop]⟩, by show 1 - (j + 1) < 1 - j; omega, ?_, ?_⟩
        · (repeat' (first | exact trivial | refine And.intro (by with_reducible rfl) ?_ | (with_reducible exact wkC_refl _) | (with_reducible exact wkCs_refl _) | refine And.intro ?_ ?_))
          all_goals first | rfl | exact av_int (by rw [wrap_i64 (by omega)]; omega)
        · refine ⟨wkE_refl _, ?_, ?_, wkE_refl _, wkH_nil _⟩
          · show wkE (.app _ _ _ _ _ _) (unE ub s (at' + k) (some b') (l' ++ [intI n]).length cap2)
            rw [List.length_append]
            exact wkE_refl _
          · refine .inl ⟨rfl, rfl, itemsC_snoc _ _, rfl, by rw [List.length_append]; rfl, rfl⟩
    · have hj : j = 1 := by omega
      have hgo2 : cntN d (1) (s.drop a) [] = .ok (ns, s.drop at') := by
        rw [← hgo, hj, Nat.sub_self]
        rfl
      (first | refine wX ?_ | exact wZ)
      refine ⟨⟨l', ob', cap', at', 0⟩, ⟨hat, hob'.1, hob'.2, hlen, ?_⟩, rfl, wkE_refl _, wkE_refl _, wkE_refl _, wkH_nil _⟩
      rw [hN, hgo2]
      exact ⟨rfl, hl', rfl⟩
  · by_cases hk1 : d.count = -1
    · have hN : numsS d (s.drop a) = allN d (s.length - a + 1) (s.drop a) [] := by unfold numsS; rw [if_pos hk1, List.length_drop]
      (first | refine wX ?_ | exact wZ)
      refine LoopN.intro (Nat × Nat × List Int × List Pack.Item × Option Nat × Nat) (fun ⟨j, at', ns, l', ob', cap'⟩ => at' ≤ s.length ∧ a + j ≤ at' ∧ l' = l ++ ns.map intI ∧ ns.length = j ∧ ((ob' = none → l' = [] ∧ cap' = 0) ∧ l'.length ≤ cap') ∧ allN d (s.length - a + 1 - j) (s.drop at') ns = allN d (s.length - a + 1) (s.drop a) [])
        (fun ⟨j, _, _, _, _, _⟩ => mkS Tryz.f17.ntmps 0 [(0, .c (.v (.pointer (some ⟨ub, 0, none⟩)))), (3, .c (.lp 3 0)), (5, .c (.v (.int .i64 d.count))), (6, .c (.v (.int .i64 (j : Int))))])
        (fun ⟨_, at', _, l', ob', cap'⟩ => [.fact UtfF, unE ub s at' ob' l'.length cap', itemsE l' ob' cap', .blk 58 [.v (.int .u8 (d.letter.toNat : Int)), .v (.bool d.big), .v (.int .i64 d.count)]]) (fun ⟨_, at', _, _, _, _⟩ => s.length - at') [] rfl
        (fun _ => rfl) (fun _ => rfl) (fun _ _ => okHB_eq rfl) ⟨(0, a, [], l, ob, cap), ⟨ha, Nat.le_refl _, by simp, rfl, hob, rfl⟩, ?_, ?_⟩ ?_
      · (repeat' (first | exact trivial | refine And.intro (by with_reducible rfl) ?_ | (with_reducible exact wkC_refl _) | (with_reducible exact wkCs_refl _) | refine And.intro ?_ ?_))
        all_goals rfl
      · exact ⟨wkE_refl _, wkE_refl _, wkE_refl _, wkE_refl _, wkH_nil _⟩
      rintro ⟨j, at', ns, l', ob', cap'⟩ ⟨hat, hja, hl', hns, hob', hgo⟩
      (first | refine wX ?_ | exact wZ)
      refine brd_ne (fun h1 => ?_) (fun h1 => absurd h1 (by omega))
      (first | refine wX ?_ | exact wZ)
      refine brd_eq (fun _ => ?_) (fun h => absurd hk1 h)
      have hns2 : (ns.map intI).length = j := by simp [hns]
      have hlen : l'.length ≤ l.length + 1000001 := by rw [hl', List.length_append]; omega
      (first | refine wX ?_ | exact wZ)
      refine callQ (left_c ub s at' ob' l'.length cap' hat hs _ (fun w hw => hw.2.1)) ?_
      (first | refine wX ?_ | exact wZ)
      refine brd_eq (fun h2 => ?_) (fun h2 => ?_)
      · skip
        -- no more bytes
        have hgo2 : allN d (s.length - a + 1) (s.drop a) [] = .ok (ns, s.drop at') := by
          rw [← hgo, show s.length - a + 1 - j = (s.length - a - j) + 1 by omega]
          unfold allN
          rw [if_pos (by rw [List.length_drop]; omega)]
        (first | refine wX ?_ | exact wZ)
        refine ⟨⟨l', ob', cap', at', 0⟩, ⟨hat, hob'.1, hob'.2, hlen, ?_⟩, rfl, wkE_refl _, wkE_refl _, wkE_refl _, wkH_nil _⟩
        rw [hN, hgo2]
        exact ⟨rfl, hl', rfl⟩
      · (first | refine wX ?_ | exact wZ)
        refine callQ (left_c ub s at' ob' l'.length cap' hat hs _ (fun w hw => hw.2.1)) ?_
        (first | refine wX ?_ | exact wZ)
        refine callQ (bytes_c d _) ?_
        (first | refine wX ?_ | exact wZ)
        refine brd_dec (fun h3 => ?_) (fun h3 => ?_)
        · skip
          -- no more bytes
          have hgo2 : allN d (s.length - a + 1) (s.drop a) [] = .ok (ns, s.drop at') := by
            rw [← hgo, show s.length - a + 1 - j = (s.length - a - j) + 1 by omega]
            unfold allN
            rw [if_pos (by rw [List.length_drop]; omega)]
          (first | refine wX ?_ | exact wZ)
          refine ⟨⟨l', ob', cap', at', 0⟩, ⟨hat, hob'.1, hob'.2, hlen, ?_⟩, rfl, wkE_refl _, wkE_refl _, wkE_refl _, wkH_nil _⟩
          rw [hN, hgo2]
          exact ⟨rfl, hl', rfl⟩
        · rw [show s.length - a + 1 - j = (s.length - a - j) + 1 by omega] at hgo
          rw [allN_succ d (s.length - a - j) (s.drop at') ns, if_neg (by rw [List.length_drop]; omega)] at hgo
          -- one number more: state (j, at, ns, l', ob', cap'); by rw [show s.length - a + 1 - (j + 1) = s.length - a - j by omega, ← hgo, List.drop_drop]: the times (an Int), by show s.length - (at' + k) < s.length - at'; omega: what to do with an error, $3: what to do with a number
          (first | refine wX ?_ | exact wZ)
          refine callG (number_u d ub s at' ob' l'.length cap' hl hst hp hat hs) [0, 1] rfl ⟨rfl, rfl, trivial⟩ rfl ?_
          rintro ⟨n, e, at2⟩ hok
          cases hr : rdNum d (s.drop at') with
          | error e0 =>
            rw [hr] at hok hgo
            obtain ⟨h7, h8, h9⟩ := hok
            simp only at h7 h8 h9
            subst h7; subst h8
            have he := rdNum_err hr
            (first | refine wX ?_ | exact wZ)
            refine brd_ne (fun _ => ?_) (fun h6 => absurd h6 he)
            (first | refine wX ?_ | exact wZ)
            refine ⟨⟨l', ob', cap', at2, e⟩, ⟨h9, hob'.1, hob'.2, hlen, ?_⟩, rfl, wkE_refl _, wkE_refl _, wkE_refl _, wkH_nil _⟩
            rw [hN, ← hgo]
            exact ⟨rfl, he⟩
          | ok x =>
            obtain ⟨n0, k⟩ := x
            have hk := rdNum_pos hz hr
            rw [hr] at hok hgo
            obtain ⟨h7, h9⟩ := hok
            injection h7 with h7 h8
            injection h8 with h8 h10
            subst h7; subst h8; subst h10
            simp only at hgo hk
            (first | refine wX ?_ | exact wZ)
            refine LdN.one (a := some ⟨ub, 0, none⟩) (q := 2) (.slice (at0 ob') l'.length cap') rfl (fun w hw => hw.2.1) rfl ?_
            (first | refine wX ?_ | exact wZ)
            refine Nd.mk ⟨Nat.le_refl 1, rfl, rfl⟩ ?_
            (conv => whnf)
            refine AppN.grow 2 (itemsC l') (itemC (intI n)) rfl rfl ⟨Nat.le_refl 1, ⟨by show (l'.length + 1) * 32 ≤ _; omega, by omega⟩, by show 3 ≠ 0; omega⟩ fun b' cap2 h11 h12 => ?_
            (first | refine wX ?_ | exact wZ)
            refine EffW.appTo (i := 1) (q := 2) (ys := [_]) (unC s (at' + k) (some b') (l'.length + 1) cap2) 3 rfl rfl rfl rfl rfl rfl rfl (Nat.le_of_ble_eq_true rfl) rfl rfl ?_
            (first | refine wX ?_ | exact wZ)
            have hl3 : l' ++ [intI n] = l ++ (ns ++ [n]).map intI := by rw [hl']; simp
            refine ⟨(j + 1, at' + k, ns ++ [n], l' ++ [intI n], some b', cap2), ⟨h9, by omega, hl3, by simp; omega, ⟨fun h => (by cases h), by rw [List.length_append]; exact h11⟩, by rw [show s.length - a + 1 - (j + 1) = s.length - a - j by omega, ← hgo, List.drop_drop]⟩, by show s.length - (at' + k) < s.length - at'; omega, ?_, ?_⟩
            · (repeat' (first | exact trivial | refine And.intro (by with_reducible rfl) ?_ | (with_reducible exact wkC_refl _) | (with_reducible exact wkCs_refl _) | refine And.intro ?_ ?_))
              all_goals first | rfl | exact av_int (by rw [wrap_i64 (by omega)]; omega)
            · refine ⟨wkE_refl _, ?_, ?_, wkE_refl _, wkH_nil _⟩
              · show wkE (.app _ _ _ _ _ _) (unE ub s (at' + k) (some b') (l' ++ [intI n]).length cap2)
                rw [List.length_append]
                exact wkE_refl _
              · refine .inl ⟨rfl, rfl, itemsC_snoc _ _, rfl, by rw [List.length_append]; rfl, rfl⟩
    · obtain ⟨T, hT⟩ : ∃ T : Nat, d.count.toNat = T := ⟨_, rfl⟩
      have hT2 : d.count = (T : Int) ∧ T ≤ 1000 := by
        unfold CntOk at hc
        omega
      have hcn : cntS d 0 = T := by unfold cntS; rw [if_neg hk, if_neg hk1]; exact hT
      -- so many numbers: T
      have hN : numsS d (s.drop a) = cntN d (T) (s.drop a) [] := by unfold numsS; rw [if_neg hk1, hcn]
      have hz := letter_num hl hst hp
      (first | refine wX ?_ | exact wZ)
      refine LoopN.intro (Nat × Nat × List Int × List Pack.Item × Option Nat × Nat) (fun ⟨j, at', ns, l', ob', cap'⟩ => at' ≤ s.length ∧ j ≤ T ∧ l' = l ++ ns.map intI ∧ ns.length = j ∧ ((ob' = none → l' = [] ∧ cap' = 0) ∧ l'.length ≤ cap') ∧ cntN d (T - j) (s.drop at') ns = cntN d (T) (s.drop a) [])
        (fun ⟨j, _, _, _, _, _⟩ => mkS Tryz.f17.ntmps 0 [(0, .c (.v (.pointer (some ⟨ub, 0, none⟩)))), (3, .c (.lp 3 0)), (5, .c (.v (.int .i64 ((T : Nat) : Int)))), (6, .c (.v (.int .i64 (j : Int))))])
        (fun ⟨_, at', _, l', ob', cap'⟩ => [.fact UtfF, unE ub s at' ob' l'.length cap', itemsE l' ob' cap', .blk 58 [.v (.int .u8 (d.letter.toNat : Int)), .v (.bool d.big), .v (.int .i64 d.count)]]) (fun ⟨j, _, _, _, _, _⟩ => T - j) [] rfl
        (fun _ => rfl) (fun _ => rfl) (fun _ _ => okHB_eq rfl) ⟨(0, a, [], l, ob, cap), ⟨ha, Nat.zero_le _, by simp, rfl, hob, rfl⟩, ?_, ?_⟩ ?_
      · (repeat' (first | exact trivial | refine And.intro (by with_reducible rfl) ?_ | (with_reducible exact wkC_refl _) | (with_reducible exact wkCs_refl _) | refine And.intro ?_ ?_))
        all_goals first | rfl | exact av_int (by omega)
      · exact ⟨wkE_refl _, wkE_refl _, wkE_refl _, wkE_refl _, wkH_nil _⟩
      rintro ⟨j, at', ns, l', ob', cap'⟩ ⟨hat, hja, hl', hns, hob', hgo⟩
      have hns2 : (ns.map intI).length = j := by simp [hns]
      have hlen : l'.length ≤ l.length + 1000001 := by rw [hl', List.length_append]; omega
      (first | refine wX ?_ | exact wZ)
      refine brd_ne (fun h1 => ?_) (fun h1 => ?_)
      · (first | refine wX ?_ | exact wZ)
        try refine brd_eq (fun h => absurd h hk1) (fun _ => ?_)
        rw [show T - j = (T - j - 1) + 1 by omega, cntN_succ d (T - j - 1) (s.drop at') ns] at hgo
        -- one number more: state (j, at, ns, l', ob', cap'); by rw [show T - (j + 1) = T - j - 1 by omega, ← hgo, List.drop_drop]: the times (an Int), by show T - (j + 1) < T - j; omega: what to do with an error, $3: what to do with a number
        (first | refine wX ?_ | exact wZ)
        refine callG (number_u d ub s at' ob' l'.length cap' hl hst hp hat hs) [0, 1] rfl ⟨rfl, rfl, trivial⟩ rfl ?_
        rintro ⟨n, e, at2⟩ hok
        cases hr : rdNum d (s.drop at') with
        | error e0 =>
          rw [hr] at hok hgo
          obtain ⟨h7, h8, h9⟩ := hok
          simp only at h7 h8 h9
          subst h7; subst h8
          have he := rdNum_err hr
          (first | refine wX ?_ | exact wZ)
          refine brd_ne (fun _ => ?_) (fun h6 => absurd h6 he)
          (first | refine wX ?_ | exact wZ)
          refine ⟨⟨l', ob', cap', at2, e⟩, ⟨h9, hob'.1, hob'.2, hlen, ?_⟩, rfl, wkE_refl _, wkE_refl _, wkE_refl _, wkH_nil _⟩
          rw [hN, ← hgo]
          exact ⟨rfl, he⟩
        | ok x =>
          obtain ⟨n0, k⟩ := x
          have hk := rdNum_pos hz hr
          rw [hr] at hok hgo
          obtain ⟨h7, h9⟩ := hok
          injection h7 with h7 h8
          injection h8 with h8 h10
          subst h7; subst h8; subst h10
          simp only at hgo hk
          (first | refine wX ?_ | exact wZ)
          refine LdN.one (a := some ⟨ub, 0, none⟩) (q := 2) (.slice (at0 ob') l'.length cap') rfl (fun w hw => hw.2.1) rfl ?_
          (first | refine wX ?_ | exact wZ)
          refine Nd.mk ⟨Nat.le_refl 1, rfl, rfl⟩ ?_
          (conv => whnf)
          refine AppN.grow 2 (itemsC l') (itemC (intI n)) rfl rfl ⟨Nat.le_refl 1, ⟨by show (l'.length + 1) * 32 ≤ _; omega, by omega⟩, by show 3 ≠ 0; omega⟩ fun b' cap2 h11 h12 => ?_
          (first | refine wX ?_ | exact wZ)
          refine EffW.appTo (i := 1) (q := 2) (ys := [_]) (unC s (at' + k) (some b') (l'.length + 1) cap2) 3 rfl rfl rfl rfl rfl rfl rfl (Nat.le_of_ble_eq_true rfl) rfl rfl ?_
          (first | refine wX ?_ | exact wZ)
          have hl3 : l' ++ [intI n] = l ++ (ns ++ [n]).map intI := by rw [hl']; simp
          refine ⟨(j + 1, at' + k, ns ++ [n], l' ++ [intI n], some b', cap2), ⟨h9, by omega, hl3, by simp; omega, ⟨fun h => (by cases h), by rw [List.length_append]; exact h11⟩, by rw [show T - (j + 1) = T - j - 1 by omega, ← hgo, List.drop_drop]⟩, by show T - (j + 1) < T - j; omega, ?_, ?_⟩
          · (repeat' (first | exact trivial | refine And.intro (by with_reducible rfl) ?_ | (with_reducible exact wkC_refl _) | (with_reducible exact wkCs_refl _) | refine And.intro ?_ ?_))
            all_goals first | rfl | exact av_int (by rw [wrap_i64 (by omega)]; omega)
          · refine ⟨wkE_refl _, ?_, ?_, wkE_refl _, wkH_nil _⟩
            · show wkE (.app _ _ _ _ _ _) (unE ub s (at' + k) (some b') (l' ++ [intI n]).length cap2)
              rw [List.length_append]
              exact wkE_refl _
            · refine .inl ⟨rfl, rfl, itemsC_snoc _ _, rfl, by rw [List.length_append]; rfl, rfl⟩
      · have hj : j = T := by omega
        have hgo2 : cntN d (T) (s.drop a) [] = .ok (ns, s.drop at') := by
          rw [← hgo, hj, Nat.sub_self]
          rfl
        (first | refine wX ?_ | exact wZ)
        refine ⟨⟨l', ob', cap', at', 0⟩, ⟨hat, hob'.1, hob'.2, hlen, ?_⟩, rfl, wkE_refl _, wkE_refl _, wkE_refl _, wkH_nil _⟩
        rw [hN, hgo2]
        exact ⟨rfl, hl', rfl⟩
end Go.Proofs.YtjkchonpnocffaaGreatDoor

/-
  Contract: Hex (program).
-/
namespace Go.Proofs.YtjkchonpnocffaaGreatDoor
open Go.AX Go.RowKit Go.Pack
set_option maxRecDepth 20000

def hexS16 : ByteArray := ⟨#[48, 49, 50, 51, 52, 53, 54, 55, 56, 57, 97, 98, 99, 100, 101, 102]⟩
theorem hexAtF : ∀ k : Fin 16, byteAt hexS16 k.val = ((hexC k.val).toNat : Int) := by decide +kernel
theorem hexAt (k : Nat) (h : k < 16) : byteAt hexS16 k = ((hexC k).toNat : Int) := hexAtF ⟨k, h⟩
theorem hex_app : ∀ (a b : List UInt8), hex (a ++ b) = hex a ++ hex b
  | [], _ => rfl
  | c :: a, b => by
    show hexC _ :: hexC _ :: hex (a ++ b) = _
    rw [hex_app a b]
    rfl
theorem hex_len : ∀ l : List UInt8, (hex l).length = 2 * l.length
  | [] => rfl
  | c :: l => by
    show (hex l).length + 1 + 1 = 2 * (l.length + 1)
    rw [hex_len l]
    omega
theorem Hex_c (s : List UInt8) (hs : s.length ≤ 1000000) : ∀ H, SpecH Tryz.prog 56 (pvs [.string (bs s)]) H (Ret (.string (bs (hex s))) H) := by
  refine pureC hm Tryz.func56 (by kernel_rfl) rfl rfl ?_
  (first | refine wX ?_ | exact wZ)
  refine EffW.bytesOf (e := 5) s rfl Tryz.underlying9 (by kernel_rfl) (by kernel_rfl) rfl (by omega) fun lb lc h5 h6 => ?_
  (first | refine wX ?_ | exact wZ)
  refine LoopN.intro (Nat × Bool × BSt) (fun ⟨j, u, i⟩ => j ≤ s.length ∧ i.ok (hex (s.take j)).length)
    (fun ⟨j, _, _⟩ => mkS Tryz.f56.ntmps 0 [(3, .c (.lp 0 0)), (7, .c (.v (.slice (some ⟨lb, 0, none⟩) s.length lc))), (8, .c (.v (.int .i64 (s.length : Int)))), (9, .c (.v (.int .i64 (j : Int))))])
    (fun ⟨j, u, i⟩ => [.blk 126 [bC u, .v (.slice (at0 i.ob) (hex (s.take j)).length i.cap)], own s lb lc, .app 5 1 (u8s (hex (s.take j))) (at0 i.ob) (hex (s.take j)).length i.cap]) (fun ⟨j, _, _⟩ => s.length - j) [.app 0 0 [] none 0 0] rfl
    (fun _ => rfl) (fun _ => rfl) (fun ⟨_, u, _⟩ _ => by cases u <;> exact okHB_eq rfl) ⟨(0, false, ⟨none, 0⟩), ⟨Nat.zero_le _, fun _ => ⟨rfl, rfl⟩, Nat.le_refl _, fun _ => rfl⟩, ?_, ?_⟩ ?_
  · (repeat' (first | exact trivial | refine And.intro (by with_reducible rfl) ?_ | (with_reducible exact wkC_refl _) | (with_reducible exact wkCs_refl _) | refine And.intro ?_ ?_))
    all_goals rfl
  · exact ⟨by (repeat' (first | exact trivial | exact wkE_refl _ | refine And.intro ?_ ?_)), wkE_refl _, wkE_nil, wkH_nil _⟩
  rintro ⟨j, u, i⟩ ⟨hj, hok⟩
  cases u with
  | true =>
    -- true: is the builder used
    (first | refine wX ?_ | exact wZ)
    refine brd_dec (fun h1 => ?_) (fun h1 => ?_)
    · obtain ⟨c, hc⟩ : ∃ c, s[j]? = some c := ⟨_, List.getElem?_eq_getElem (by omega)⟩
      have hsn : s.take (j + 1) = s.take j ++ [c] := Pack.take_snoc hc
      have hcl := UInt8.toNat_lt c
      (first | refine wX ?_ | exact wZ)
      refine Nd.mk ⟨rfl, by omega, by omega⟩ ?_
      (first | refine wX ?_ | exact wZ)
      refine LdN.one (.int .u8 (c.toNat : Int)) rfl (fun w hw => hw.1) (by
        show (u8s s)[(j : Int).toNat * 1]? = _
        rw [Nat.mul_one, Int.toNat_natCast]
        exact u8s_at hc) ?_
      have hq : IntKind.u8.wrap ((c.toNat : Int).tdiv 16) = ((c.toNat / 16 : Nat) : Int) := by
        rw [show (c.toNat : Int).tdiv 16 = ((c.toNat / 16 : Nat) : Int) from (Int.ofNat_tdiv c.toNat 16).symm, wrap_u8 (by omega)]
      have hm : IntKind.u8.wrap ((c.toNat : Int).tmod 16) = ((c.toNat % 16 : Nat) : Int) := by
        rw [show (c.toNat : Int).tmod 16 = ((c.toNat % 16 : Nat) : Int) from (Int.ofNat_tmod c.toNat 16).symm, wrap_u8 (by omega)]
      have hm' : (c.toNat : Int).tmod 16 = ((c.toNat % 16 : Nat) : Int) := (Int.ofNat_tmod c.toNat 16).symm
      have hx1 : byteAt { data := #[48, 49, 50, 51, 52, 53, 54, 55, 56, 57, 97, 98, 99, 100, 101, 102] } (Int.toNat ((c.toNat / 16 : Nat) : Int)) = ((hexC (c.toNat / 16)).toNat : Int) := by
        rw [Int.toNat_natCast]
        exact hexAt _ (by omega)
      have hx2 : byteAt { data := #[48, 49, 50, 51, 52, 53, 54, 55, 56, 57, 97, 98, 99, 100, 101, 102] } (Int.toNat ((c.toNat % 16 : Nat) : Int)) = ((hexC (c.toNat % 16)).toNat : Int) := by
        rw [Int.toNat_natCast]
        exact hexAt _ (by omega)
      have hhl : (hex (s.take j)).length ≤ 2000000 := by rw [hex_len, List.length_take]; omega
      (first | refine wX ?_ | exact wZ)
      rw [hq]
      refine Nd.mk ⟨by omega, by show _ < (16 : Int); omega⟩ ?_
      (first | refine wX ?_ | exact wZ)
      rw [hx1]
      refine callG (WriteByte_c true (hex (s.take j)) (hexC (c.toNat / 16)) i (by omega)) [0, 2] rfl ⟨rfl, rfl, trivial⟩ rfl fun i1 hi1 => ?_
      (first | refine wX ?_ | exact wZ)
      first | rw [hm] | rw [hm']
      refine Nd.mk ⟨by omega, by show _ < (16 : Int); omega⟩ ?_
      (first | refine wX ?_ | exact wZ)
      rw [hx2]
      refine callG (WriteByte_c true (hex (s.take j) ++ [hexC (c.toNat / 16)]) (hexC (c.toNat % 16)) i1 (by rw [List.length_append]; show _ + 1 + 1 ≤ _; omega)) [0, 2] rfl ⟨rfl, rfl, trivial⟩ rfl fun i2 hi2 => ?_
      have hnx : hex (s.take j) ++ [hexC (c.toNat / 16)] ++ [hexC (c.toNat % 16)] = hex (s.take (j + 1)) := by rw [hsn, hex_app, List.append_assoc]; rfl
      rw [hnx] at hi2 ⊢
      (first | refine wX ?_ | exact wZ)
      refine ⟨(j + 1, true, i2), ⟨by omega, hi2⟩, by show s.length - (j + 1) < s.length - j; omega, ?_, ?_⟩
      · (repeat' (first | exact trivial | refine And.intro (by with_reducible rfl) ?_ | (with_reducible exact wkC_refl _) | (with_reducible exact wkCs_refl _) | refine And.intro ?_ ?_))
        all_goals first | rfl | exact av_int (by rw [wrap_i64 (by omega)]; omega)
      · exact ⟨wkE_refl _, wkE_refl _, wkE_refl _, wkH_nil _⟩
    · have hjl : j = s.length := by omega
      (first | refine wX ?_ | exact wZ)
      refine callG (BString_c true (hex (s.take j)) i hok) [0, 2] rfl ⟨rfl, rfl, trivial⟩ rfl fun _ _ => ?_
      (first | refine wX ?_ | exact wZ)
      rw [hjl, List.take_length]
  | false =>
    -- false: is the builder used
    (first | refine wX ?_ | exact wZ)
    refine brd_dec (fun h1 => ?_) (fun h1 => ?_)
    · obtain ⟨c, hc⟩ : ∃ c, s[j]? = some c := ⟨_, List.getElem?_eq_getElem (by omega)⟩
      have hsn : s.take (j + 1) = s.take j ++ [c] := Pack.take_snoc hc
      have hcl := UInt8.toNat_lt c
      (first | refine wX ?_ | exact wZ)
      refine Nd.mk ⟨rfl, by omega, by omega⟩ ?_
      (first | refine wX ?_ | exact wZ)
      refine LdN.one (.int .u8 (c.toNat : Int)) rfl (fun w hw => hw.1) (by
        show (u8s s)[(j : Int).toNat * 1]? = _
        rw [Nat.mul_one, Int.toNat_natCast]
        exact u8s_at hc) ?_
      have hq : IntKind.u8.wrap ((c.toNat : Int).tdiv 16) = ((c.toNat / 16 : Nat) : Int) := by
        rw [show (c.toNat : Int).tdiv 16 = ((c.toNat / 16 : Nat) : Int) from (Int.ofNat_tdiv c.toNat 16).symm, wrap_u8 (by omega)]
      have hm : IntKind.u8.wrap ((c.toNat : Int).tmod 16) = ((c.toNat % 16 : Nat) : Int) := by
        rw [show (c.toNat : Int).tmod 16 = ((c.toNat % 16 : Nat) : Int) from (Int.ofNat_tmod c.toNat 16).symm, wrap_u8 (by omega)]
      have hm' : (c.toNat : Int).tmod 16 = ((c.toNat % 16 : Nat) : Int) := (Int.ofNat_tmod c.toNat 16).symm
      have hx1 : byteAt { data := #[48, 49, 50, 51, 52, 53, 54, 55, 56, 57, 97, 98, 99, 100, 101, 102] } (Int.toNat ((c.toNat / 16 : Nat) : Int)) = ((hexC (c.toNat / 16)).toNat : Int) := by
        rw [Int.toNat_natCast]
        exact hexAt _ (by omega)
      have hx2 : byteAt { data := #[48, 49, 50, 51, 52, 53, 54, 55, 56, 57, 97, 98, 99, 100, 101, 102] } (Int.toNat ((c.toNat % 16 : Nat) : Int)) = ((hexC (c.toNat % 16)).toNat : Int) := by
        rw [Int.toNat_natCast]
        exact hexAt _ (by omega)
      have hhl : (hex (s.take j)).length ≤ 2000000 := by rw [hex_len, List.length_take]; omega
      (first | refine wX ?_ | exact wZ)
      rw [hq]
      refine Nd.mk ⟨by omega, by show _ < (16 : Int); omega⟩ ?_
      (first | refine wX ?_ | exact wZ)
      rw [hx1]
      refine callG (WriteByte_c false (hex (s.take j)) (hexC (c.toNat / 16)) i (by omega)) [0, 2] rfl ⟨rfl, rfl, trivial⟩ rfl fun i1 hi1 => ?_
      (first | refine wX ?_ | exact wZ)
      first | rw [hm] | rw [hm']
      refine Nd.mk ⟨by omega, by show _ < (16 : Int); omega⟩ ?_
      (first | refine wX ?_ | exact wZ)
      rw [hx2]
      refine callG (WriteByte_c true (hex (s.take j) ++ [hexC (c.toNat / 16)]) (hexC (c.toNat % 16)) i1 (by rw [List.length_append]; show _ + 1 + 1 ≤ _; omega)) [0, 2] rfl ⟨rfl, rfl, trivial⟩ rfl fun i2 hi2 => ?_
      have hnx : hex (s.take j) ++ [hexC (c.toNat / 16)] ++ [hexC (c.toNat % 16)] = hex (s.take (j + 1)) := by rw [hsn, hex_app, List.append_assoc]; rfl
      rw [hnx] at hi2 ⊢
      (first | refine wX ?_ | exact wZ)
      refine ⟨(j + 1, true, i2), ⟨by omega, hi2⟩, by show s.length - (j + 1) < s.length - j; omega, ?_, ?_⟩
      · (repeat' (first | exact trivial | refine And.intro (by with_reducible rfl) ?_ | (with_reducible exact wkC_refl _) | (with_reducible exact wkCs_refl _) | refine And.intro ?_ ?_))
        all_goals first | rfl | exact av_int (by rw [wrap_i64 (by omega)]; omega)
      · exact ⟨wkE_refl _, wkE_refl _, wkE_refl _, wkH_nil _⟩
    · have hjl : j = s.length := by omega
      (first | refine wX ?_ | exact wZ)
      refine callG (BString_c false (hex (s.take j)) i hok) [0, 2] rfl ⟨rfl, rfl, trivial⟩ rfl fun _ _ => ?_
      (first | refine wX ?_ | exact wZ)
      rw [hjl, List.take_length]
end Go.Proofs.YtjkchonpnocffaaGreatDoor

/-
  Contracts: a text is read (program).
-/
namespace Go.Proofs.YtjkchonpnocffaaGreatDoor
open Go.AX Go.RowKit Go.Pack
set_option maxRecDepth 20000

/-! ### Blanks and zeros are trimmed -/
def zB (c : UInt8) : Bool := c == 32 || c == 0
def zTab : List Value := (List.range 256).map fun i => .bool (i == 32 || i == 0)
theorem zTab_ok : TabB zTab zB := fun c => by
  have hc := c.toNat_lt
  unfold zTab zB
  rw [List.getElem?_map, List.getElem?_range (by omega)]
  simp only [Option.map_some, Option.some.injEq, Value.bool.injEq]
  have h1 : (c.toNat == 32) = (c == 32) := by
    rw [Bool.eq_iff_iff, beq_iff_eq, beq_iff_eq]
    exact ⟨fun h => UInt8.toNat_inj.1 h, fun h => by rw [h]; rfl⟩
  have h2 : (c.toNat == 0) = (c == 0) := by
    rw [Bool.eq_iff_iff, beq_iff_eq, beq_iff_eq]
    exact ⟨fun h => UInt8.toNat_inj.1 h, fun h => by rw [h]; rfl⟩
  rw [h1, h2]
theorem setCells_z : (Lib.setCells [32, 0]).toList = zTab := by kernel_rfl
theorem setCells_z' : Lib.setCells [32, 0] = zTab.toArray := by apply Array.ext'; rw [setCells_z]
theorem makeZ_c : ∀ H, SpecH Tryz.prog 51 (pvs [.string (bs [32, 0])]) H (Ret (.tuple #[.agg zTab.toArray, .bool true]) H) := fun H =>
  SpecH.rawP (R := fun r => r = .tuple #[.agg zTab.toArray, .bool true]) (callOk Tryz.func51 (by kernel_rfl) rfl)
    (fun w _ => (Tryz.strings_makeASCIISet (fun w => by obtain ⟨i, hi, hz⟩ := Option.map_eq_some_iff.1 zero_set; exact run_zeroValue hi hz w) (bs [32, 0]) w (by decide) (by
      intro j b hj
      rw [bs_list] at hj
      match j, hj with
      | 0, hj => cases hj; decide
      | 1, hj => cases hj; decide)).mono fun e w' ⟨he, hw⟩ => ⟨_, he, by rw [bs_list, setCells_z'], by subst hw; exact (Below.refl _ w).alloc (Nat.le_refl _) _⟩) fun r hr => by subst hr; exact ⟨rfl, rfl⟩
theorem TrimZ_c (s : List UInt8) (hs : s.length ≤ 1000000000) : ∀ H, SpecH Tryz.prog 39 (pvs [.string (bs s), .string (bs [32, 0])]) H (Ret (.string (bs (trimA s))) H) := by
  refine pureC hm Tryz.func39 (by kernel_rfl) rfl rfl ?_
  (first | refine wX ?_ | exact wZ)
  rw [bs_list]
  refine brd_intro (fun h => ?_) (fun h => ?_)
  · have : s = [] := by simpa using h
    subst this
    (first | refine wX ?_ | exact wZ)
    rfl
  · (first | refine wX ?_ | exact wZ)
    refine call1 (makeZ_c _) ?_
    (first | refine wX ?_ | exact wZ)
    refine callG (trimRightASCII_c _ zTab zB zTab_ok s hs) [0] rfl ⟨rfl, trivial⟩ rfl fun _ _ => ?_
    (first | refine wX ?_ | exact wZ)
    rfl
/-! ### The first zero -/
theorem index0 (l : List UInt8) : Lib.indexByte l 0 = if l.contains 0 then ((l.takeWhile (· != 0)).length : Int) else -1 := by
  induction l with
  | nil => rfl
  | cons a r ih =>
    unfold Lib.indexByte
    by_cases h : a = 0
    · subst h
      simp
    · rw [if_neg (by simpa using h), ih, List.takeWhile_cons_of_pos (by simpa using h)]
      have hc : (a :: r).contains 0 = r.contains 0 := by
        rw [List.contains_cons]
        rw [show ((0 : UInt8) == a) = false from beq_eq_false_iff_ne.2 (Ne.symm h), Bool.false_or]
      rw [hc]
      cases r.contains 0 with
      | false => simp
      | true =>
        simp only [if_true]
        rw [if_neg (by simp)]
        simp
theorem take0 (l : List UInt8) : l.take (l.takeWhile (· != 0)).length = l.takeWhile (· != 0) := by
  induction l with
  | nil => rfl
  | cons a r ih =>
    by_cases h : a = 0
    · subst h; rfl
    · rw [List.takeWhile_cons_of_pos (by simpa using h), List.length_cons, List.take_succ_cons, ih]
theorem index1 (l : List UInt8) : Lib.index l [0] = Lib.indexByte l 0 := by
  induction l with
  | nil => rfl
  | cons a r ih =>
    unfold Lib.index Lib.indexByte
    rw [ih]
    by_cases h : a = 0
    · subst h; rfl
    · rw [if_neg (show ¬ [0].isPrefixOf (a :: r) = true by simp [List.isPrefixOf]; exact fun h2 => h h2.symm), if_neg (show ¬ (a == 0) = true by simpa using h)]
theorem takeW0 {l : List UInt8} (h : (0 : UInt8) ∉ l) : l.takeWhile (· != 0) = l := by
  induction l with
  | nil => rfl
  | cons b l ih =>
    simp at h
    simp [show ¬ b = 0 from fun e => h.1 e.symm, ih h.2]
theorem cut0 (l : List UInt8) : (Lib.cut l [0]).1 = l.takeWhile (· != 0) := by
  unfold Lib.cut
  rw [index1, index0]
  by_cases h : l.contains 0 = true
  · rw [if_pos h, if_pos (by omega), Int.toNat_natCast]
    exact take0 l
  · rw [if_neg h, if_neg (by decide)]
    have h0 : (0 : UInt8) ∉ l := fun h2 => h (by simpa using h2)
    exact (takeW0 h0).symm
end Go.Proofs.YtjkchonpnocffaaGreatDoor
