/-
  Lemmas (MC11 MP11 MP14 MP15 MC12 MC13).
-/
import Derived.Test.YtgogonnnojcioaaGreatDoorMfu7
set_option linter.unusedVariables false
set_option linter.unusedSimpArgs false
/-
  Contracts: the reader's symbols (program).
-/
namespace Go.Proofs.YtgogonnnojcioaaGreatDoor
open Go.AX Go.RowKit Go.Core Go.Marshal
set_option maxRecDepth 20000

/-- What is known of a reader's rows. -/
structure RdOk (st : PS) (p : RdP) : Prop where
  g : p.m.map (·.c) = st.g
  cell : ∀ q ∈ p.m, CellOk q
  ga : p.ga = none → p.m = []
  ca : p.ca = none → st.cells = []
  sa : p.sa = none → st.ss = []
  sw : ∀ t ∈ st.ss, t.length ≤ 30000
  gx : p.ga = none ∨ ∃ b : Nat, p.ga = some ⟨b, 0, none⟩
theorem fail_ss (st : PS) (e : Int) : (failM st e).ss = st.ss ∧ (failM st e).g = st.g ∧ (failM st e).cells = st.cells := by unfold failM; split <;> exact ⟨rfl, rfl, rfl⟩
theorem num_keep (most : Nat) (st : PS) : (numM most st).2.ss = st.ss ∧ (numM most st).2.g = st.g ∧ (numM most st).2.cells = st.cells := by
  unfold numM
  split
  · exact ⟨rfl, rfl, rfl⟩
  split <;> exact ⟨rfl, rfl, rfl⟩
theorem text_keep (most : Nat) (st : PS) : (textM most st).2.ss = st.ss ∧ (textM most st).2.g = st.g ∧ (textM most st).2.cells = st.cells := by
  have h := num_keep maxN st
  unfold textM
  split
  · exact h
  split
  · exact h
  split <;> exact h
theorem symbol_rd (rb : Nat) (x : UInt8) (st : PS) (p : RdP) (ok : RdOk st p) (hss : st.ss.length < 100000) : SpecH Tryz.prog 105 [.c (.v (.pointer (some ⟨rb, 0, none⟩))), .c (.v (.int .u8 (x.toNat : Int)))] (rdE rb st p) (RetG (ι := Option Addr × Nat) (fun i => i.1 = none → (symM x st).2.ss = []) (fun _ => .string (bs (symM x st).1)) fun i => rdE rb (symM x st).2 { p with sa := i.1, sc := i.2 }) := by
  refine ownC hm Tryz.func105 (by kernel_rfl) rfl rfl (fun _ _ => rdE_ok _ _ _) (fun _ _ => Nat.le_refl _) ?_
  have htext := text_rd rb st p 40
  have hnum := number_m rb st p maxN (by decide)
  have kt := text_keep 40 st
  have kn := num_keep maxN st
  unfold symM
  generalize textM 40 st = qt at htext kt ⊢
  generalize numM maxN st = qn at hnum kn ⊢
  obtain ⟨t, st1⟩ := qt
  obtain ⟨n, st2⟩ := qn
  simp only at htext hnum kt kn ⊢
  by_cases h58 : x = 58
  · subst h58
    rw [if_pos rfl]
    have hsa : p.sa = none → st1.ss = [] := fun h => by rw [kt.1]; exact ok.sa h
    have hl1 : st1.ss.length < 100000 := by rw [kt.1]; exact hss
    (first | refine wX ?_ | exact wZ)
    -- the contract htext is called
    refine callG (htext) [0, 1, 2, 3, 4] rfl ⟨rfl, rfl, rfl, rfl, rfl, trivial⟩ rfl fun _ _ => ?_
    (first | refine wX ?_ | exact wZ)
    -- 4: the field, .int .i64 st1.e: its value
    refine LdN.one (a := some ⟨rb, 0, none⟩) (q := 4) (.int .i64 st1.e) rfl (fun w hw => hw.1) rfl ?_
    (first | refine wX ?_ | exact wZ)
    by_cases he : st1.e = 0
    · rw [show (st1.e == 0) = true by rw [he]; rfl]
      (first | refine wX ?_ | exact wZ)
      -- 3: the field, .slice p.sa st1.ss.length p.sc: its value
      refine LdN.one (a := some ⟨rb, 0, none⟩) (q := 3) (.slice p.sa st1.ss.length p.sc) rfl (fun w hw => hw.1) rfl ?_
      (first | refine wX ?_ | exact wZ)
      refine call1 (Contains_m p.sa st1.ss p.sc t hsa (by omega) _ (fun w hw => hw.2.2.2.2.1)) ?_
      (first | refine wX ?_ | exact wZ)
      refine brd_dec (fun hm => ?_) (fun hm => ?_)
      · (first | refine wX ?_ | exact wZ)
        -- the contract fail_m rb st1 p 4 is called
        refine callG (fail_m rb st1 p 4) [0, 1, 2, 3, 4] rfl ⟨rfl, rfl, rfl, rfl, rfl, trivial⟩ rfl fun _ _ => ?_
        rw [if_pos ⟨he, hm⟩, show ({ failM st1 4 with ss := st1.ss ++ [t] } : PS) = { failM st1 4 with ss := (failM st1 4).ss ++ [t] } by rw [(fail_ss st1 4).1]]
        have hl2 : (failM st1 4).ss.length < 100000 := by rw [(fail_ss st1 4).1]; exact hl1
        generalize failM st1 4 = st3 at hl2 ⊢
        -- the text is put behind the symbols of st3
        (first | refine wX ?_ | exact wZ)
        -- 3: the field, .slice p.sa (st3).ss.length p.sc: its value
        refine LdN.one (a := some ⟨rb, 0, none⟩) (q := 3) (.slice p.sa (st3).ss.length p.sc) rfl (fun w hw => hw.1) rfl ?_
        (first | refine wX ?_ | exact wZ)
        refine Nd.mk ⟨Nat.le_refl 1, rfl, rfl⟩ ?_
        (conv => whnf)
        refine AppN.grow 4 (strC (st3).ss) [.string (bs t)] rfl rfl ⟨Nat.le_refl 1, ⟨by show ((st3).ss.length + 1) * 16 ≤ _; omega, by omega⟩, by decide⟩ fun b' cap' h1 h2 => ?_
        (first | refine wX ?_ | exact wZ)
        refine EffW.appTo (i := 0) (q := 3) (ys := [_]) (rdC { (st3) with ss := (st3).ss ++ [t] } { p with sa := some ⟨b', 0, none⟩, sc := cap' }) 5 rfl rfl rfl rfl rfl rfl rfl (Nat.le_of_ble_eq_true rfl) (by simp [rdC]) rfl ?_
        (first | refine wX ?_ | exact wZ)
        refine ⟨(some ⟨b', 0, none⟩, cap'), (fun h => by cases h), rfl, wkE_refl _, wkE_refl _, wkE_refl _, wkE_refl _, ?_, trivial⟩
        rw [show strC (st3).ss ++ [.string (bs t)] = strC ((st3).ss ++ [t]) by simp [strC], show (st3).ss.length + 1 = ((st3).ss ++ [t]).length by simp]
        exact wkE_refl _
      · rw [if_neg (fun h => hm h.2)]
        -- the text is put behind the symbols of st1
        (first | refine wX ?_ | exact wZ)
        -- 3: the field, .slice p.sa (st1).ss.length p.sc: its value
        refine LdN.one (a := some ⟨rb, 0, none⟩) (q := 3) (.slice p.sa (st1).ss.length p.sc) rfl (fun w hw => hw.1) rfl ?_
        (first | refine wX ?_ | exact wZ)
        refine Nd.mk ⟨Nat.le_refl 1, rfl, rfl⟩ ?_
        (conv => whnf)
        refine AppN.grow 4 (strC (st1).ss) [.string (bs t)] rfl rfl ⟨Nat.le_refl 1, ⟨by show ((st1).ss.length + 1) * 16 ≤ _; omega, by omega⟩, by decide⟩ fun b' cap' h1 h2 => ?_
        (first | refine wX ?_ | exact wZ)
        refine EffW.appTo (i := 0) (q := 3) (ys := [_]) (rdC { (st1) with ss := (st1).ss ++ [t] } { p with sa := some ⟨b', 0, none⟩, sc := cap' }) 5 rfl rfl rfl rfl rfl rfl rfl (Nat.le_of_ble_eq_true rfl) (by simp [rdC]) rfl ?_
        (first | refine wX ?_ | exact wZ)
        refine ⟨(some ⟨b', 0, none⟩, cap'), (fun h => by cases h), rfl, wkE_refl _, wkE_refl _, wkE_refl _, wkE_refl _, ?_, trivial⟩
        rw [show strC (st1).ss ++ [.string (bs t)] = strC ((st1).ss ++ [t]) by simp [strC], show (st1).ss.length + 1 = ((st1).ss ++ [t]).length by simp]
        exact wkE_refl _
    · rw [show (st1.e == 0) = false by simpa using he, if_neg (fun h => he h.1)]
      -- the text is put behind the symbols of st1
      (first | refine wX ?_ | exact wZ)
      -- 3: the field, .slice p.sa (st1).ss.length p.sc: its value
      refine LdN.one (a := some ⟨rb, 0, none⟩) (q := 3) (.slice p.sa (st1).ss.length p.sc) rfl (fun w hw => hw.1) rfl ?_
      (first | refine wX ?_ | exact wZ)
      refine Nd.mk ⟨Nat.le_refl 1, rfl, rfl⟩ ?_
      (conv => whnf)
      refine AppN.grow 4 (strC (st1).ss) [.string (bs t)] rfl rfl ⟨Nat.le_refl 1, ⟨by show ((st1).ss.length + 1) * 16 ≤ _; omega, by omega⟩, by decide⟩ fun b' cap' h1 h2 => ?_
      (first | refine wX ?_ | exact wZ)
      refine EffW.appTo (i := 0) (q := 3) (ys := [_]) (rdC { (st1) with ss := (st1).ss ++ [t] } { p with sa := some ⟨b', 0, none⟩, sc := cap' }) 5 rfl rfl rfl rfl rfl rfl rfl (Nat.le_of_ble_eq_true rfl) (by simp [rdC]) rfl ?_
      (first | refine wX ?_ | exact wZ)
      refine ⟨(some ⟨b', 0, none⟩, cap'), (fun h => by cases h), rfl, wkE_refl _, wkE_refl _, wkE_refl _, wkE_refl _, ?_, trivial⟩
      rw [show strC (st1).ss ++ [.string (bs t)] = strC ((st1).ss ++ [t]) by simp [strC], show (st1).ss.length + 1 = ((st1).ss ++ [t]).length by simp]
      exact wkE_refl _
  by_cases h59 : x = 59
  · subst h59
    rw [if_neg (by decide), if_pos rfl]
    (first | refine wX ?_ | exact wZ)
    -- the contract hnum is called
    refine callG (hnum) [0, 1, 2, 3, 4] rfl ⟨rfl, rfl, rfl, rfl, rfl, trivial⟩ rfl fun _ _ => ?_
    (first | refine wX ?_ | exact wZ)
    -- 4: the field, .int .i64 st2.e: its value
    refine LdN.one (a := some ⟨rb, 0, none⟩) (q := 4) (.int .i64 st2.e) rfl (fun w hw => hw.1) rfl ?_
    (first | refine wX ?_ | exact wZ)
    by_cases he : st2.e = 0
    · rw [show (st2.e == 0) = true by rw [he]; rfl]
      (first | refine wX ?_ | exact wZ)
      -- 3: the field, .slice p.sa st2.ss.length p.sc: its value
      refine LdN.one (a := some ⟨rb, 0, none⟩) (q := 3) (.slice p.sa st2.ss.length p.sc) rfl (fun w hw => hw.1) rfl ?_
      (first | refine wX ?_ | exact wZ)
      refine brd_dec (fun hlt => ?_) (fun hlt => ?_)
      · have hn : n < st2.ss.length := by omega
        rw [if_pos ⟨he, hn⟩]
        have hsa : p.sa.isSome = true := by
          cases h : p.sa with
          | none =>
            have := ok.sa h
            rw [kn.1, this] at hn
            exact absurd hn (Nat.not_lt_zero _)
          | some b => rfl
        have hget : st2.ss[n]? = some (st2.ss.getD n []) := by rw [List.getD_eq_getElem?_getD, List.getElem?_eq_getElem hn]; rfl
        (first | refine wX ?_ | exact wZ)
        -- 3: the field, .slice p.sa st2.ss.length p.sc: its value
        refine LdN.one (a := some ⟨rb, 0, none⟩) (q := 3) (.slice p.sa st2.ss.length p.sc) rfl (fun w hw => hw.1) rfl ?_
        (first | refine wX ?_ | exact wZ)
        refine Nd.mk ⟨hsa, by omega, by omega⟩ ?_
        (first | refine wX ?_ | exact wZ)
        refine LdN.one (.string (bs (st2.ss.getD n []))) rfl (fun w hw => hw.2.2.2.2.1) (by show (strC st2.ss)[Int.toNat _ * 1]? = _; rw [Int.toNat_natCast, Nat.mul_one]; exact strC_get hget) ?_
        (first | refine wX ?_ | exact wZ)
        exact ⟨(p.sa, p.sc), (fun h => by show st2.ss = []; rw [kn.1]; exact ok.sa h), rfl, wkH_refl _⟩
      · rw [if_neg (fun h => hlt (by omega))]
        (first | refine wX ?_ | exact wZ)
        -- the contract fail_m rb st2 p 4 is called
        refine callG (fail_m rb st2 p 4) [0, 1, 2, 3, 4] rfl ⟨rfl, rfl, rfl, rfl, rfl, trivial⟩ rfl fun _ _ => ?_
        (first | refine wX ?_ | exact wZ)
        exact ⟨(p.sa, p.sc), (fun h => by rw [(fail_ss _ _).1, kn.1]; exact ok.sa h), rfl, wkH_refl _⟩
    · rw [show (st2.e == 0) = false by simpa using he, if_neg (fun h => he h.1)]
      (first | refine wX ?_ | exact wZ)
      -- the contract fail_m rb st2 p 4 is called
      refine callG (fail_m rb st2 p 4) [0, 1, 2, 3, 4] rfl ⟨rfl, rfl, rfl, rfl, rfl, trivial⟩ rfl fun _ _ => ?_
      (first | refine wX ?_ | exact wZ)
      exact ⟨(p.sa, p.sc), (fun h => by rw [(fail_ss _ _).1, kn.1]; exact ok.sa h), rfl, wkH_refl _⟩
  · rw [if_neg h58, if_neg h59]
    have e1 : ((x.toNat : Int) == 58) = false := by
      rw [beq_eq_false_iff_ne]
      intro h5
      exact h58 (UInt8.toNat_inj.1 (by have : x.toNat = 58 := by omega
                                       rw [this]; rfl))
    have e2 : ((x.toNat : Int) == 59) = false := by
      rw [beq_eq_false_iff_ne]
      intro h5
      exact h59 (UInt8.toNat_inj.1 (by have : x.toNat = 59 := by omega
                                       rw [this]; rfl))
    (first | refine wX ?_ | exact wZ)
    rw [e1]
    (first | refine wX ?_ | exact wZ)
    rw [e2]
    (first | refine wX ?_ | exact wZ)
    -- the contract fail_m rb st p 4 is called
    refine callG (fail_m rb st p 4) [0, 1, 2, 3, 4] rfl ⟨rfl, rfl, rfl, rfl, rfl, trivial⟩ rfl fun _ _ => ?_
    (first | refine wX ?_ | exact wZ)
    exact ⟨(p.sa, p.sc), (fun h => by rw [(fail_ss _ _).1]; exact ok.sa h), rfl, wkH_refl _⟩
end Go.Proofs.YtgogonnnojcioaaGreatDoor

/-
  Plain: shared cells are as many as were reached; bytes that are cut or too long; a full graph.
-/
namespace Go.Marshal
open Go.Core

/-! ### Cut bytes -/
theorem head_ok : ∀ (hs s r : B), headF hs s = .ok r → s = hs ++ r
  | [], s, r, h => by cases h; rfl
  | x :: hs, [], r, h => by cases h
  | x :: hs, y :: s, r, h => by
    unfold headF at h
    split at h
    · rename_i e
      rw [e, head_ok hs s r h]
      rfl
    · cases h
theorem head_self : ∀ (hs r : B), headF hs (hs ++ r) = .ok r
  | [], r => rfl
  | x :: hs, r => by
    show headF (x :: hs) (x :: (hs ++ r)) = _
    unfold headF
    rw [if_pos rfl]
    exact head_self hs r
/-! ### A full graph -/
def nils (n k : Nat) : List Int := (List.range k).map fun (j : Nat) => ((n + j : Nat) : Int)
theorem nils_succ (n k : Nat) : nils n (k + 1) = (n : Int) :: nils (n + 1) k := by
  unfold nils
  rw [List.range_succ_eq_map, List.map_cons, List.map_map]
  congr 1
  exact List.map_congr_left fun j _ => by simp only [Function.comp]; omega
theorem full_items (cs : List Int) (ss : List B) : ∀ (k : Nat) (acc : List Int) (g : List Cell), itemsA formS k acc ⟨List.replicate k 48, g, cs, ss⟩ = if k = 0 ∨ g.length + k ≤ 500 then .ok (acc ++ nils g.length k, ⟨[], g ++ List.replicate k nilC, cs, ss⟩) else .error 4
  | 0, acc, g => by
    unfold itemsA
    rw [if_pos (.inl rfl)]
    simp [nils]
  | k + 1, acc, g => by
    unfold itemsA
    rw [form_byte (x := 48) (s := List.replicate k 48) rfl (by decide) (by decide)]
    by_cases h : 500 ≤ g.length
    · rw [if_pos h, if_neg (by omega)]
      rfl
    · rw [if_neg h]
      have e : innerF formS 48 (openS 48 ⟨List.replicate k 48, g, cs, ss⟩) = .ok (nilC, ⟨List.replicate k 48, g ++ [nilC], cs, ss⟩) := rfl
      have e2 : setS g.length nilC ⟨List.replicate k 48, g ++ [nilC], cs, ss⟩ = ⟨List.replicate k 48, g ++ [nilC], cs, ss⟩ := by
        unfold setS
        simp only
        rw [List.set_append_right _ _ (Nat.le_refl _), Nat.sub_self]
        rfl
      show bnd (bnd (innerF formS 48 (openS 48 ⟨List.replicate k 48, g, cs, ss⟩)) _) _ = _
      rw [e]
      show itemsA formS k (acc ++ [(g.length : Int)]) (setS g.length nilC _) = _
      rw [e2, full_items cs ss k (acc ++ [(g.length : Int)]) (g ++ [nilC])]
      have hl : (g ++ [nilC]).length = g.length + 1 := by simp
      rw [hl]
      by_cases h2 : g.length + (k + 1) ≤ 500
      · rw [if_pos (.inr (by omega)), if_pos (.inr h2), nils_succ, List.append_assoc, List.append_assoc]
        rfl
      · by_cases h3 : k = 0
        · omega
        · rw [if_neg (by omega), if_neg (by omega)]
theorem nil_cell (n : Nat) : cellD n nilC = true := by
  unfold cellD rangeB nilC
  simp
theorem full_valid {k : Nat} (hk : k + 1 ≤ 500) : ValidP (⟨6, 0, [], [], nils 1 k⟩ :: List.replicate k nilC) := by
  refine ⟨by simpa using hk, fun c hc => ?_, fun c hc h7 => ?_⟩
  · rcases List.mem_cons.1 hc with rfl | hc
    · have hr : rangeB (List.length ((⟨6, 0, [], [], nils 1 k⟩ : Cell) :: List.replicate k nilC)) ⟨6, 0, [], [], nils 1 k⟩ = true := by
        unfold rangeB
        rw [List.all_eq_true]
        intro y hy
        obtain ⟨j, hj, rfl⟩ := List.mem_map.1 hy
        have := List.mem_range.1 hj
        simp
        omega
      unfold cellD
      rw [hr]
      simp
    · rw [List.eq_of_mem_replicate hc]; exact nil_cell _
  · rcases List.mem_cons.1 hc with rfl | hc
    · simp at h7
    · rw [List.eq_of_mem_replicate hc] at h7; simp [nilC] at h7
theorem load_full {k : Nat} (h1 : 128 ≤ k) (h2 : k ≤ 1000) : (k + 1 ≤ 500 → ∃ p, loadS (headB ++ 91 :: (num k ++ List.replicate k 48)) = .ok p) ∧ (500 < k + 1 → loadS (headB ++ 91 :: (num k ++ List.replicate k 48)) = .error 4) := by
  have hm : maxN = 1000000000000000 := rfl
  have hnl := num_len (n := k) (by omega)
  have hlen : ¬ 20000 < (headB ++ 91 :: (num k ++ List.replicate k 48)).length := by
    have : headB.length = 3 := rfl
    simp only [List.length_append, List.length_cons, List.length_replicate, this]; omega
  have hf : formS ⟨91 :: (num k ++ List.replicate k 48), [], [], []⟩ = if k + 1 ≤ 500 then .ok (0, ⟨[], ⟨6, 0, [], [], nils 1 k⟩ :: List.replicate k nilC, [0], []⟩) else .error 4 := by
    rw [form_byte (x := 91) (s := num k ++ List.replicate k 48) rfl (by decide) (by decide)]
    rw [if_neg (by simp)]
    have e : innerF formS 91 (openS 91 ⟨num k ++ List.replicate k 48, [], [], []⟩) = bnd (numS maxN ⟨num k ++ List.replicate k 48, [nilC], [0], []⟩) fun n st => bnd (itemsA formS n [] st) fun l st => .ok (⟨6, 0, [], [], l⟩, st) := rfl
    show bnd (innerF formS 91 (openS 91 ⟨num k ++ List.replicate k 48, [], [], []⟩)) _ = _
    rw [e, num_ok (n := k) (by omega) (by omega) rfl]
    show bnd (bnd (itemsA formS k [] ⟨List.replicate k 48, [nilC], [0], []⟩) _) _ = _
    rw [full_items]
    by_cases h : k + 1 ≤ 500
    · rw [if_pos (.inr (by simp only [List.length_cons, List.length_nil]; omega)), if_pos h]
      rfl
    · rw [if_neg (by simp only [List.length_cons, List.length_nil]; omega), if_neg h]
      rfl
  have hload : loadS (headB ++ 91 :: (num k ++ List.replicate k 48)) = match formS ⟨91 :: (num k ++ List.replicate k 48), [], [], []⟩ with
      | .error e => .error e
      | .ok (_, st) => open Classical in if st.s ≠ [] then .error 4 else if ValidP st.g then .ok (st.g, st.ss) else .error 1 := by
    unfold loadS
    rw [if_neg hlen, head_self]
    rfl
  rw [hload, hf]
  refine ⟨fun h => ?_, fun h => ?_⟩
  · rw [if_pos h]
    simp only
    rw [if_neg (by simp), if_pos (full_valid h)]
    exact ⟨_, rfl⟩
  · rw [if_neg (by omega)]
end Go.Marshal

/-
  Plain: the program's reader gives what is said: the whole bytes; how much it holds.
-/
namespace Go.Marshal
open Go.Core

theorem toS_open (x : UInt8) (st : PS) : toS (openM x st) = openS x (toS st) := rfl
theorem Ref.cell : ∀ n : Nat, Ref (formF n) (cellM n)
  | 0 => ⟨(fun st a st' h0 h => by cases h), (fun st e h0 h => by cases h; exact ⟨fail_e h0 99, by decide⟩), fun st h => fail_keep st 99 h⟩
  | n + 1 => by
    have ih := Ref.cell n
    refine Ref.bnd Ref.next (N := fun x st => if st.e ≠ 0 then (0, st) else if x = 64 then refM st else if 500 ≤ st.g.length ∨ x ∉ begins then (0, failM st 4) else ((st.g.length : Int), { (innerM (cellM n) x (openM x st)).2 with g := (innerM (cellM n) x (openM x st)).2.g.set st.g.length (innerM (cellM n) x (openM x st)).1 }))
      (fun x => ⟨fun st a st' h0 h => ?_, fun st e h0 h => ?_, fun st h => ?_⟩) (fun x st h => by rw [if_pos h])
    · rw [if_neg (by simp [h0])]
      by_cases h64 : x = 64
      · rw [if_pos h64] at h ⊢
        cases hn : numS maxN (toS st) with
        | error e => rw [hn] at h; cases h
        | ok p =>
          obtain ⟨k, st1⟩ := p
          rw [hn] at h
          have h1 := (Ref.num maxN).ok st k st1 h0 hn
          have h2 : (match st1.cells[k]? with
            | some c => .ok (c, st1)
            | none => .error 4 : Except Int (Int × St)) = .ok (a, st') := h
          unfold refM
          rw [h1]
          simp only
          rw [if_neg (by simp [ofS])]
          cases hc : st1.cells[k]? with
          | none => rw [hc] at h2; cases h2
          | some c =>
            rw [hc] at h2
            cases h2
            have := (List.getElem?_eq_some_iff.1 hc).1
            have hcl : ¬ (ofS st').cells.length ≤ k := by show ¬ st'.cells.length ≤ k; omega
            rw [if_neg hcl]
            show ((st'.cells.getD k 0 : Int), ofS st') = _
            rw [List.getD_eq_getElem?_getD, hc]
            rfl
      · rw [if_neg h64] at h ⊢
        have e1 : (toS st).g.length = st.g.length := rfl
        rw [e1] at h
        by_cases hb : 500 ≤ st.g.length ∨ x ∉ begins
        · rw [if_pos hb] at h; cases h
        · rw [if_neg hb] at h ⊢
          have hx : x ∈ begins := Classical.byContradiction fun hx => hb (.inr hx)
          rw [← toS_open] at h
          have hi := Ref.inner ih hx
          cases hn : innerF (formF n) x (toS (openM x st)) with
          | error e => rw [hn] at h; cases h
          | ok p =>
            obtain ⟨c, st1⟩ := p
            rw [hn] at h
            have h1 := hi.ok (openM x st) c st1 h0 hn
            cases h
            rw [h1]
            rfl
    · rw [if_neg (by simp [h0])]
      by_cases h64 : x = 64
      · rw [if_pos h64] at h ⊢
        unfold refM
        cases hn : numS maxN (toS st) with
        | error e1 =>
          rw [hn] at h
          have : Except.error e1 = (Except.error e : Except Int (Int × St)) := h
          cases this
          obtain ⟨h1, h2⟩ := (Ref.num maxN).err st _ h0 hn
          simp only
          rw [if_pos (by rw [h1]; exact h2)]
          exact ⟨h1, h2⟩
        | ok p =>
          obtain ⟨k, st1⟩ := p
          rw [hn] at h
          have h1 := (Ref.num maxN).ok st k st1 h0 hn
          have h2 : (match st1.cells[k]? with
            | some c => .ok (c, st1)
            | none => .error 4 : Except Int (Int × St)) = .error e := h
          rw [h1]
          simp only
          rw [if_neg (by simp [ofS])]
          cases hc : st1.cells[k]? with
          | some c => rw [hc] at h2; cases h2
          | none =>
            rw [hc] at h2
            cases h2
            have := List.getElem?_eq_none_iff.1 hc
            have hcl : (ofS st1).cells.length ≤ k := by show st1.cells.length ≤ k; omega
            rw [if_pos hcl]
            exact ⟨fail_e rfl 4, by decide⟩
      · rw [if_neg h64] at h ⊢
        have e1 : (toS st).g.length = st.g.length := rfl
        rw [e1] at h
        by_cases hb : 500 ≤ st.g.length ∨ x ∉ begins
        · rw [if_pos hb] at h ⊢
          cases h
          exact ⟨fail_e h0 4, by decide⟩
        · rw [if_neg hb] at h ⊢
          have hx : x ∈ begins := Classical.byContradiction fun hx => hb (.inr hx)
          rw [← toS_open] at h
          have hi := Ref.inner ih hx
          cases hn : innerF (formF n) x (toS (openM x st)) with
          | error e1 =>
            rw [hn] at h
            have : Except.error e1 = (Except.error e : Except Int (Int × St)) := h
            cases this
            exact hi.err (openM x st) _ h0 hn
          | ok p => rw [hn] at h; cases h
    · rw [if_pos h]
theorem cell_dead (n : Nat) {st : PS} (h : st.e ≠ 0) : cellM (n + 1) st = (0, st) := by
  unfold cellM
  simp only
  rw [next_dead h, if_pos h]

/-! ### The whole bytes -/
def headM : B → PS → PS
  | [], st => st
  | h :: hs, st => headM hs (if (nextM st).1 ≠ h then failM (nextM st).2 4 else (nextM st).2)
def endM (st : PS) : PS := if st.e = 0 ∧ st.s ≠ [] then failM st 4 else st
open Classical in
noncomputable def checkM (st : PS) : PS := if st.e = 0 then { st with e := if ValidP st.g then 0 else 1 } else st
noncomputable def readM (s : B) : PS := checkM (endM (cellM (s.length + 1) (headM headB ⟨s, [], [], [], 0⟩)).2)
theorem head_dead : ∀ (hs : B) {st : PS}, st.e ≠ 0 → headM hs st = st
  | [], _, _ => rfl
  | h :: hs, st, hd => by
    unfold headM
    rw [next_dead hd]
    simp only
    split
    · rw [fail_dead hd]; exact head_dead hs hd
    · exact head_dead hs hd
theorem head_ref : ∀ (hs : B) (st : PS), st.e = 0 → (∀ r, headF hs st.s = .ok r → headM hs st = { st with s := r }) ∧ ∀ e, headF hs st.s = .error e → (headM hs st).e = e ∧ e ≠ 0
  | [], st, h0 => ⟨fun r h => by cases h; rfl, fun e h => by cases h⟩
  | x :: hs, st, h0 => by
    cases hs2 : st.s with
    | nil =>
      refine ⟨(fun r h => by cases h), fun e h => ?_⟩
      cases h
      have hn : nextM st = (0, { st with e := 14 }) := by unfold nextM; rw [if_neg (by simp [h0]), hs2]
      unfold headM
      rw [hn]
      simp only
      have hd : ({ st with e := 14 } : PS).e ≠ 0 := by show (14 : Int) ≠ 0; decide
      split
      · rw [fail_dead hd, head_dead hs hd]
        exact ⟨rfl, by decide⟩
      · rw [head_dead hs hd]
        exact ⟨rfl, by decide⟩
    | cons y s =>
      have hn : nextM st = (y, { st with s := s }) := by unfold nextM; rw [if_neg (by simp [h0]), hs2]
      unfold headM headF
      rw [hn]
      simp only
      by_cases hy : y = x
      · rw [if_pos hy, if_neg (by simp [hy])]
        have ih := head_ref hs { st with s := s } h0
        exact ih
      · rw [if_neg hy, if_pos hy]
        refine ⟨(fun r h => by cases h), fun e h => ?_⟩
        cases h
        have h4 : (failM ({ st with s := s } : PS) 4).e = 4 := fail_e (st := { st with s := s }) h0 4
        have hd : (failM ({ st with s := s } : PS) 4).e ≠ 0 := by rw [h4]; decide
        rw [head_dead hs hd]
        exact ⟨h4, by decide⟩
theorem end_dead {st : PS} (h : st.e ≠ 0) : endM st = st := by unfold endM; rw [if_neg (by simp [h])]
theorem check_dead {st : PS} (h : st.e ≠ 0) : checkM st = st := by unfold checkM; rw [if_neg h]
/-- The program's reader gives what the bytes tell. -/
theorem load_ref {s : B} (hs : s.length ≤ 20000) : (∀ p, loadS s = .ok p → (readM s).e = 0 ∧ (readM s).g = p.1 ∧ (readM s).ss = p.2) ∧ ∀ e, loadS s = .error e → (readM s).e = e ∧ e ≠ 0 := by
  unfold loadS
  rw [if_neg (by omega)]
  have hh := head_ref headB ⟨s, [], [], [], 0⟩ rfl
  unfold readM
  cases hr : headF headB s with
  | error e1 =>
    obtain ⟨h1, h2⟩ := hh.2 e1 hr
    refine ⟨(fun p h => by cases h), fun e h => ?_⟩
    cases h
    have hd : (headM headB ⟨s, [], [], [], 0⟩).e ≠ 0 := by rw [h1]; exact h2
    rw [cell_dead _ hd, end_dead hd, check_dead hd]
    exact ⟨h1, h2⟩
  | ok r =>
    have h1 := hh.1 r hr
    rw [h1]
    have hl : r.length ≤ s.length := by rw [head_ok _ _ _ hr, List.length_append]; omega
    have hc := Ref.cell (s.length + 1)
    have hst : formF (r.length + 1) ⟨r, [], [], []⟩ = formF (s.length + 1) ⟨r, [], [], []⟩ := form_stab _ _ _ (Nat.lt_succ_self _) (by show r.length < _; omega)
    simp only
    rw [hst]
    cases hf : formF (s.length + 1) ⟨r, [], [], []⟩ with
    | error e1 =>
      obtain ⟨h2, h3⟩ := hc.err ⟨r, [], [], [], 0⟩ e1 rfl hf
      refine ⟨(fun p h => by cases h), fun e h => ?_⟩
      cases h
      have hd : (cellM (s.length + 1) ⟨r, [], [], [], 0⟩).2.e ≠ 0 := by rw [h2]; exact h3
      rw [end_dead hd, check_dead hd]
      exact ⟨h2, h3⟩
    | ok q =>
      obtain ⟨i, st⟩ := q
      have h2 := hc.ok ⟨r, [], [], [], 0⟩ i st rfl hf
      rw [h2]
      simp only
      by_cases hn : st.s = []
      · have he : endM (ofS st) = ofS st := by
          unfold endM
          rw [if_neg]
          rintro ⟨_, h⟩
          exact h hn
        rw [if_neg (by simp [hn]), he]
        unfold checkM
        rw [if_pos (show (ofS st).e = 0 from rfl)]
        have hg : (ofS st).g = st.g := rfl
        rw [hg]
        by_cases hv : ValidP st.g
        · rw [if_pos hv, if_pos hv]
          exact ⟨fun p h => by cases h; exact ⟨rfl, rfl, rfl⟩, fun e h => by cases h⟩
        · rw [if_neg hv, if_neg hv]
          exact ⟨(fun p h => by cases h), fun e h => by cases h; exact ⟨rfl, by decide⟩⟩
      · have he : endM (ofS st) = failM (ofS st) 4 := by
          unfold endM
          rw [if_pos ⟨rfl, hn⟩]
        have h4 : (failM (ofS st) 4).e = 4 := fail_e rfl 4
        rw [if_pos hn, he, check_dead (by rw [h4]; decide)]
        exact ⟨(fun p h => by cases h), fun e h => by cases h; exact ⟨h4, by decide⟩⟩
end Go.Marshal

/-
  Plain: how much the program's reader holds: what it has left never grows, and each thing it holds has its byte.
-/
namespace Go.Marshal
open Go.Core

structure Le (k : Nat) (st st' : PS) : Prop where
  pot : st'.ss.length + st'.s.length ≤ st.ss.length + st.s.length + k
  s : st'.s.length ≤ st.s.length
  g : st.g.length ≤ st'.g.length
  g5 : st.g.length ≤ 500 → st'.g.length ≤ 500
  cl : st'.cells.length + st.g.length ≤ st.cells.length + st'.g.length
theorem Le.refl (st : PS) : Le 0 st st := ⟨by omega, by omega, by omega, fun h => h, by omega⟩
theorem Le.trans {k j : Nat} {a b c : PS} (h : Le k a b) (h2 : Le j b c) : Le (k + j) a c :=
  ⟨by have := h.pot; have := h2.pot; omega, Nat.le_trans h2.s h.s, Nat.le_trans h.g h2.g, fun h0 => h2.g5 (h.g5 h0), by have := h.cl; have := h2.cl; have := h.g; have := h2.g; omega⟩
theorem Le.mono {k j : Nat} {a b : PS} (h : Le k a b) (hj : k ≤ j) : Le j a b := ⟨by have := h.pot; omega, h.s, h.g, h.g5, h.cl⟩
theorem fail_le (st : PS) (e : Int) : Le 0 st (failM st e) := by unfold failM; split <;> exact ⟨by simp, by simp, by simp, fun h => h, by simp⟩
theorem next_le (st : PS) : Le 0 st (nextM st).2 := by
  unfold nextM
  split
  · exact Le.refl st
  split
  · exact ⟨by simp, by simp, by simp, fun h => h, by simp⟩
  · rename_i x s h
    refine ⟨?_, ?_, by simp, fun h => h, by simp⟩ <;> · rw [h]; simp
theorem next_lt {st : PS} (h : (nextM st).2.e = 0 ∨ (nextM st).1 ≠ 0) : (nextM st).2.s.length + 1 ≤ st.s.length ∧ (nextM st).2.ss = st.ss ∧ (nextM st).2.g = st.g ∧ (nextM st).2.cells = st.cells ∧ (nextM st).2.e = st.e ∧ st.e = 0 := by
  unfold nextM at h ⊢
  split at h
  · rename_i h1
    rcases h with h | h
    · exact absurd h h1
    · exact absurd rfl h
  rename_i h1
  rw [if_neg h1]
  cases hs : st.s with
  | nil =>
    rw [hs] at h
    rcases h with h | h
    · exact absurd h (by show (14 : Int) ≠ 0; decide)
    · exact absurd rfl h
  | cons x s => exact ⟨by simp, rfl, rfl, rfl, rfl, Classical.not_not.1 h1⟩
theorem rdQ_le : ∀ (s : B) (i : Nat), (rdQ i s).length ≤ s.length
  | [], _ => Nat.le_refl _
  | x :: s, i => by
    unfold rdQ
    split
    · simp
    split
    · simp
    · exact Nat.le_trans (rdQ_le s _) (by simp)
theorem num_le (most : Nat) (st : PS) : Le 0 st (numM most st).2 := by
  have h := rdQ_le st.s 0
  unfold numM
  split
  · exact Le.refl st
  split <;> exact ⟨by show st.ss.length + (rdQ 0 st.s).length ≤ _; omega, h, Nat.le_refl _, fun h => h, Nat.le_refl _⟩
theorem rdF_most {most : Nat} : ∀ (s : B) (i n a : Nat) (r : B), rdF most i n s = .ok (a, r) → a ≤ most
  | [], _, _, _, _, h => by unfold rdF at h; cases h
  | x :: s, i, n, a, r, h => by
    unfold rdF at h
    split at h
    · cases h
    split at h
    · split at h
      · rename_i h3
        cases h
        exact h3
      · cases h
    · exact rdF_most s _ _ a r h
theorem num_most (most : Nat) (st : PS) : (numM most st).1 ≤ most := by
  unfold numM
  split
  · exact Nat.zero_le _
  split
  · rename_i n r h
    exact rdF_most _ _ _ _ _ h
  · exact Nat.zero_le _
theorem text_le (most : Nat) (st : PS) : Le 0 st (textM most st).2 := by
  have h := num_le maxN st
  unfold textM
  split
  · exact h
  split
  · exact h.trans (k := 0) (j := 0) ⟨by simp, by simp, by simp, fun h => h, by simp⟩
  split
  · exact h.trans (k := 0) (j := 0) ⟨by simp, by simp, by simp, fun h => h, by simp⟩
  · exact h.trans (k := 0) (j := 0) ⟨by simp, by simp, by simp, fun h => h, by simp⟩
theorem sym_le (x : UInt8) (st : PS) : Le (if x = 58 then 1 else 0) st (symM x st).2 := by
  unfold symM
  split
  · have h := text_le 40 st
    have h2 : Le 0 (textM 40 st).2 (if (textM 40 st).2.e = 0 ∧ (textM 40 st).1 ∈ (textM 40 st).2.ss then failM (textM 40 st).2 4 else (textM 40 st).2) := by
      split
      · exact fail_le _ _
      · exact Le.refl _
    have h3 := h.trans h2
    generalize (if (textM 40 st).2.e = 0 ∧ (textM 40 st).1 ∈ (textM 40 st).2.ss then failM (textM 40 st).2 4 else (textM 40 st).2) = q at h2 h3 ⊢
    have h4 := h.pot
    have h5 := h2.s
    exact ⟨by simp; omega, h3.s, h3.g, h3.g5, h3.cl⟩
  split
  · have h := num_le maxN st
    split
    · exact h
    · exact h.trans (fail_le _ _)
  · exact fail_le _ _
theorem nextsym_le (st : PS) : Le 0 st (symM (nextM st).1 (nextM st).2).2 := by
  have h := sym_le (nextM st).1 (nextM st).2
  by_cases hx : (nextM st).1 = 58
  · rw [if_pos hx] at h
    obtain ⟨h1, h2, h3, h4, _⟩ := next_lt (st := st) (.inr (by rw [hx]; decide))
    have h5 := h.pot
    have h6 := h.cl
    rw [h2] at h5
    rw [h3, h4] at h6
    exact ⟨by omega, Nat.le_trans h.s (by omega), by rw [← h3]; exact h.g, fun h0 => h.g5 (by rw [h3]; exact h0), h6⟩
  · rw [if_neg hx] at h
    exact (next_le st).trans h
theorem class_le (st : PS) : Le 0 st (classM st).2 := by
  unfold classM
  simp only
  split
  · exact (nextsym_le st).trans (fail_le _ _)
  · exact nextsym_le st
theorem name_le (ns : List B) (st : PS) : Le 0 st (nameM ns st).2 := by
  unfold nameM
  simp only
  split
  · exact (nextsym_le st).trans (fail_le _ _)
  · exact nextsym_le st
/-- A reader of a cell takes at least a byte. -/
structure Takes (f : PS → Int × PS) : Prop where
  le : ∀ st, Le 0 st (f st).2
  lt : ∀ st, (f st).2.e = 0 → (f st).2.s.length < st.s.length
def liv (st : PS) : Nat := if st.e = 0 then 1 else 0
theorem items_le {f : PS → Int × PS} (hf : Takes f) : ∀ (n : Nat) (l : List Int) (st : PS), Le 0 st (itemsM f n l st).2 ∧ (itemsM f n l st).1.length + (itemsM f n l st).2.s.length + liv (itemsM f n l st).2 ≤ l.length + st.s.length + liv st
  | 0, l, st => ⟨Le.refl st, Nat.le_refl _⟩
  | n + 1, l, st => by
    unfold itemsM
    split
    · rename_i h0
      obtain ⟨h1, h2⟩ := items_le hf n (l ++ [(f st).1]) (f st).2
      refine ⟨(hf.le st).trans h1, Nat.le_trans h2 ?_⟩
      have h3 := (hf.le st).s
      have h4 := hf.lt st
      unfold liv
      rw [if_pos h0, List.length_append, List.length_singleton]
      split
      · rename_i h5
        have := h4 h5
        omega
      · omega
    · exact ⟨Le.refl st, Nat.le_refl _⟩
theorem attrs_le {f : PS → Int × PS} (hf : Takes f) : ∀ (n : Nat) (ns : List B) (l : List Int) (st : PS), Le 0 st (attrsM f n ns l st).2 ∧ (attrsM f n ns l st).1.2.length + (attrsM f n ns l st).2.s.length + liv (attrsM f n ns l st).2 ≤ l.length + st.s.length + liv st ∧ (attrsM f n ns l st).1.1.length + l.length = ns.length + (attrsM f n ns l st).1.2.length
  | 0, ns, l, st => ⟨Le.refl st, Nat.le_refl _, rfl⟩
  | n + 1, ns, l, st => by
    unfold attrsM
    split
    · rename_i h0
      obtain ⟨h1, h2, h6⟩ := attrs_le hf n (ns ++ [(nameM ns st).1]) (l ++ [(f (nameM ns st).2).1]) (f (nameM ns st).2).2
      have h7 := name_le ns st
      refine ⟨(h7.trans (hf.le _)).trans h1, Nat.le_trans h2 ?_, ?_⟩
      · have h3 := (hf.le (nameM ns st).2).s
        have h4 := hf.lt (nameM ns st).2
        have h8 := h7.s
        unfold liv
        rw [if_pos h0, List.length_append, List.length_singleton]
        split
        · rename_i h5
          have := h4 h5
          omega
        · omega
      · simp only [List.length_append, List.length_singleton] at h6
        omega
    · exact ⟨Le.refl st, Nat.le_refl _, rfl⟩
theorem inner_le {f : PS → Int × PS} (hf : Takes f) (x : UInt8) (st : PS) : Le (if x = 58 then 1 else 0) st (innerM f x st).2 := by
  have z : ∀ {st' : PS}, Le 0 st st' → Le (if x = 58 then 1 else 0) st st' := fun h => h.mono (Nat.zero_le _)
  have hs := sym_le x st
  generalize (if x = 58 then 1 else 0) = k at z hs ⊢
  unfold innerM
  split
  · exact z (Le.refl _)
  split
  · exact z (Le.refl _)
  split
  · exact z (num_le _ _)
  split
  · exact z (text_le _ _)
  split
  · exact hs
  split
  · exact z ((num_le _ _).trans (items_le hf _ _ _).1)
  split
  · exact z ((num_le _ _).trans (items_le hf _ _ _).1)
  split
  · exact z (((class_le st).trans (num_le _ _)).trans (attrs_le hf _ _ _ _).1)
  · exact z (Le.refl _)
theorem ref_le (st : PS) : Le 0 st (refM st).2 := by
  have h := num_le maxN st
  unfold refM
  simp only
  split
  · exact h
  split
  · exact h.trans (fail_le _ _)
  · exact h
theorem cell_takes : ∀ n : Nat, Takes (cellM n)
  | 0 => ⟨fun st => fail_le st 99, fun st h => by
      unfold cellM failM at h
      split at h
      · exact absurd h (by show (99 : Int) ≠ 0; decide)
      · rename_i h2; exact absurd h h2⟩
  | n + 1 => by
    have ih := cell_takes n
    have key : ∀ st, Le 0 st (cellM (n + 1) st).2 ∧ ((cellM (n + 1) st).2.e = 0 → (cellM (n + 1) st).2.s.length < st.s.length) := by
      intro st
      unfold cellM
      simp only
      have h0 := next_le st
      split
      · rename_i h1
        exact ⟨h0, fun h => absurd h h1⟩
      rename_i h1
      obtain ⟨k1, k2, k3, k4, k5, k6⟩ := next_lt (st := st) (.inl (Classical.not_not.1 h1))
      split
      · have h2 := ref_le (nextM st).2
        exact ⟨h0.trans h2, fun _ => Nat.lt_of_le_of_lt h2.s (by omega)⟩
      split
      · have h2 := fail_le (nextM st).2 4
        exact ⟨h0.trans h2, fun _ => Nat.lt_of_le_of_lt h2.s (by omega)⟩
      · rename_i h2 h3
        have h4 := inner_le ih (nextM st).1 (openM (nextM st).1 (nextM st).2)
        have o1 : (openM (nextM st).1 (nextM st).2).s = (nextM st).2.s := rfl
        have o2 : (openM (nextM st).1 (nextM st).2).ss = (nextM st).2.ss := rfl
        have o3 : (openM (nextM st).1 (nextM st).2).g.length = (nextM st).2.g.length + 1 := by unfold openM; simp
        have o4 : (openM (nextM st).1 (nextM st).2).cells.length ≤ (nextM st).2.cells.length + 1 := by unfold openM; simp only; split <;> simp
        have p1 := h4.pot
        have p2 := h4.s
        have p3 := h4.g
        have p4 := h4.g5
        have p5 := h4.cl
        rw [o1, o2] at p1
        rw [o1] at p2
        rw [o3] at p3 p4 p5
        rw [k2] at p1
        rw [k3] at p3 p4 p5
        rw [k4] at o4
        have hg : ¬ 500 ≤ (nextM st).2.g.length := fun h => h3 (.inl h)
        rw [k3] at hg
        have h58 : (if (nextM st).1 = 58 then 1 else 0) ≤ 1 := by split <;> omega
        refine ⟨⟨?_, ?_, ?_, fun _ => ?_, ?_⟩, fun _ => ?_⟩
        · show (innerM (cellM n) (nextM st).1 (openM (nextM st).1 (nextM st).2)).2.ss.length + (innerM (cellM n) (nextM st).1 (openM (nextM st).1 (nextM st).2)).2.s.length ≤ _
          omega
        · show (innerM (cellM n) (nextM st).1 (openM (nextM st).1 (nextM st).2)).2.s.length ≤ _
          omega
        · show _ ≤ (List.set _ _ _).length
          rw [List.length_set]
          omega
        · show (List.set _ _ _).length ≤ _
          rw [List.length_set]
          omega
        · show (innerM (cellM n) (nextM st).1 (openM (nextM st).1 (nextM st).2)).2.cells.length + _ ≤ _ + (List.set _ _ _).length
          rw [List.length_set]
          omega
        · show (innerM (cellM n) (nextM st).1 (openM (nextM st).1 (nextM st).2)).2.s.length < _
          omega
    exact ⟨fun st => (key st).1, fun st => (key st).2⟩
/-- A reader that holds little. -/
structure Bd (st : PS) : Prop where
  g : st.g.length ≤ 500
  cl : st.cells.length ≤ st.g.length
  pot : st.ss.length + st.s.length ≤ 30000
theorem Bd.le {st st' : PS} (b : Bd st) (h : Le 0 st st') : Bd st' := ⟨h.g5 b.g, by have := h.cl; have := b.cl; omega, by have := h.pot; have := b.pot; omega⟩
end Go.Marshal

/-
  Contracts: the reader's items (program).
-/
namespace Go.Proofs.YtgogonnnojcioaaGreatDoor
open Go.AX Go.RowKit Go.Core Go.Marshal
set_option maxRecDepth 20000

/-- A cell is read, with so much fuel. -/
def CellC (n : Nat) : Prop := ∀ (rb : Nat) (st : PS) (p : RdP), RdOk st p → Bd st → (st.s.length < n ∨ st.e ≠ 0) → SpecH Tryz.prog 64 [.c (.v (.pointer (some ⟨rb, 0, none⟩)))] (rdE rb st p) (RetG (ι := RdP) (fun p' => RdOk (cellM n st).2 p') (fun _ => .int .i64 (cellM n st).1) fun p' => rdE rb (cellM n st).2 p')
def ownI (l : List Int) (a : Option Addr) (cap : Nat) : Ent := .app 3 1 (iC l) a l.length cap
structure ItP where
  i : Nat
  l : List Int
  st : PS
  p : RdP
  a : Option Addr
  cap : Nat
theorem items_rd (n : Nat) (hc : CellC n) (rb : Nat) (st : PS) (p : RdP) (ok : RdOk st p) (bd : Bd st) (hn : st.s.length < n ∨ st.e ≠ 0) (m : Nat) (hm2 : m ≤ 4000000000000000) : SpecH Tryz.prog 106 [.c (.v (.pointer (some ⟨rb, 0, none⟩))), .c (.v (.int .i64 (m : Int)))] (rdE rb st p ++ [.app 3 1 [] none 0 0]) (RetG (ι := RdP × Option Addr × Nat) (fun i => RdOk (itemsM (cellM n) m [] st).2 i.1 ∧ (i.2.1 = none → (itemsM (cellM n) m [] st).1 = []) ∧ (itemsM (cellM n) m [] st).1.length ≤ i.2.2) (fun i => .slice i.2.1 (itemsM (cellM n) m [] st).1.length i.2.2) fun i => rdE rb (itemsM (cellM n) m [] st).2 i.1 ++ [ownI (itemsM (cellM n) m [] st).1 i.2.1 i.2.2]) := by
  refine ownC hm Tryz.func106 (by kernel_rfl) rfl rfl (fun _ _ => okHB_eq rfl) (fun _ _ => Nat.le_of_ble_eq_true rfl) ?_
  have hI : ∀ k l st', itemsM (cellM n) (k + 1) l st' = if st'.e = 0 then itemsM (cellM n) k (l ++ [(cellM n st').1]) (cellM n st').2 else (l, st') := fun k l st' => by conv => lhs; unfold itemsM
  obtain ⟨R, hR⟩ : ∃ R, itemsM (cellM n) m [] st = R := ⟨_, rfl⟩
  rw [hR]
  have htk := cell_takes n
  (first | refine wX ?_ | exact wZ)
  refine LoopN.intro ItP (fun ⟨i, l, st, p, a, cap⟩ => itemsM (cellM n) (m - i) l st = R ∧ i ≤ m ∧ RdOk st p ∧ Bd st ∧ (st.s.length < n ∨ st.e ≠ 0) ∧ l.length + st.s.length + liv st ≤ 30001 ∧ (a = none → l = []) ∧ l.length ≤ cap)
    (fun ⟨i, l, _, _, a, cap⟩ => mkS Tryz.f106.ntmps 0 [(0, .c (.v (.pointer (some ⟨rb, 0, none⟩)))), (1, .c (.v (.int .i64 (m : Int)))), (4, .c (.v (.slice none 0 0))), (5, .c (.v (.slice a l.length cap))), (6, .c (.v (.int .i64 (i : Int))))])
    (fun ⟨_, l, st, p, a, cap⟩ => rdE rb st p ++ [ownI l a cap]) (fun ⟨_, _, st, _, _, _⟩ => if st.e = 0 then st.s.length + 1 else 0) [] rfl
    (fun _ => rfl) (fun _ => rfl) (fun _ _ => okHB_eq rfl) ⟨⟨0, [], st, p, none, 0⟩, ⟨hR, Nat.zero_le _, ok, bd, hn, ?_, fun _ => rfl, Nat.le_refl _⟩, ?_, wkH_refl _⟩ ?_
  · have := bd.pot
    unfold liv
    show 0 + st.s.length + _ ≤ _
    split <;> omega
  · (repeat' (first | exact trivial | refine And.intro (by with_reducible rfl) ?_ | (with_reducible exact wkC_refl _) | (with_reducible exact wkCs_refl _) | refine And.intro ?_ ?_))
    all_goals rfl
  rintro ⟨i, l, st1, p1, a, cap⟩ ⟨h1, h2, h3, h4, h5, h6, h7, h8⟩
  (first | refine wX ?_ | exact wZ)
  by_cases hi : i < m
  · rw [show decide ((i : Int) < (m : Int)) = true by simpa using hi]
    obtain ⟨k, hk⟩ : ∃ k, m - i = k + 1 := ⟨m - i - 1, by omega⟩
    rw [hk, hI] at h1
    (first | refine wX ?_ | exact wZ)
    -- 4: the field, .int .i64 st1.e: its value
    refine LdN.one (a := some ⟨rb, 0, none⟩) (q := 4) (.int .i64 st1.e) rfl (fun w hw => hw.1) rfl ?_
    (first | refine wX ?_ | exact wZ)
    by_cases he : st1.e = 0
    · rw [show (st1.e == 0) = true by rw [he]; rfl]
      rw [if_pos he] at h1
      (first | refine wX ?_ | exact wZ)
      refine callG (hc rb st1 p1 h3 h4 h5) [0, 1, 2, 3, 4] rfl ⟨rfl, rfl, rfl, rfl, rfl, trivial⟩ rfl fun p2 hp2 => ?_
      have hle := htk.le st1
      have hlt := htk.lt st1
      have hll : l.length ≤ 30001 := by omega
      generalize cellM n st1 = r at h1 hp2 hle hlt ⊢
      obtain ⟨z, st2⟩ := r
      simp only at h1 hp2 hle hlt
      (first | refine wX ?_ | exact wZ)
      refine Nd.mk ⟨Nat.le_refl 1, rfl, rfl⟩ ?_
      (conv => whnf)
      refine AppN.grow 5 (iC l) [.int .i64 z] rfl rfl ⟨Nat.le_refl 1, ⟨by show (l.length + 1) * 8 ≤ _; omega, by omega⟩, by decide⟩ fun b' cap' g1 g2 => ?_
      (first | refine wX ?_ | exact wZ)
      have e1 : iC l ++ [.int .i64 z] = iC (l ++ [z]) := by simp [iC]
      have e2 : l.length + 1 = (l ++ [z]).length := by simp
      rw [e1, e2]
      refine ⟨⟨i + 1, l ++ [z], st2, p2, some ⟨b', 0, none⟩, cap'⟩, ⟨by rw [← h1, show m - (i + 1) = k by omega], by show i + 1 ≤ m; omega, hp2, h4.le hle, ?_, ?_, (fun h => by cases h), by rw [← e2]; exact g1⟩, ?_, ?_, ?_⟩
      · show st2.s.length < n ∨ _
        have := hle.s
        rcases h5 with h | h
        · left; omega
        · exact absurd he h
      · show (l ++ [z]).length + st2.s.length + liv st2 ≤ _
        rw [List.length_append, List.length_singleton]
        have hs := hle.s
        unfold liv at h6 ⊢
        rw [if_pos he] at h6
        split
        · rename_i h9
          have := hlt h9
          omega
        · omega
      · show (if st2.e = 0 then st2.s.length + 1 else 0) < if st1.e = 0 then st1.s.length + 1 else 0
        rw [if_pos he]
        split
        · rename_i h9
          have := hlt h9
          omega
        · omega
      · (repeat' (first | exact trivial | refine And.intro (by with_reducible rfl) ?_ | (with_reducible exact wkC_refl _) | (with_reducible exact wkCs_refl _) | refine And.intro ?_ ?_))
        all_goals first | rfl | exact av_int (by rw [wrap_i64 (by omega)]; omega)
      · exact ⟨wkE_refl _, wkE_refl _, wkE_refl _, wkE_refl _, wkE_refl _, wkE_refl _, wkH_nil _⟩
    · rw [show (st1.e == 0) = false by simpa using he]
      rw [if_neg he] at h1
      subst h1
      (first | refine wX ?_ | exact wZ)
      exact ⟨(p1, a, cap), ⟨h3, h7, h8⟩, rfl, wkH_refl _⟩
  · rw [show decide ((i : Int) < (m : Int)) = false by simpa using hi]
    rw [show m - i = 0 by omega] at h1
    have h1 : (l, st1) = R := h1
    subst h1
    (first | refine wX ?_ | exact wZ)
    exact ⟨(p1, a, cap), ⟨h3, h7, h8⟩, rfl, wkH_refl _⟩
end Go.Proofs.YtgogonnnojcioaaGreatDoor

/-
  Contracts: what is known of a reader stays known (program); the two graphs of one cell.
-/
namespace Go.Marshal
open Go.Core
theorem text_len (most : Nat) (st : PS) : (textM most st).1.length ≤ st.s.length := by
  have h := (num_le maxN st).s
  unfold textM
  split
  · simp
  split
  · simp
  split
  · simp
  · rw [List.length_take]
    omega
theorem next_keep (st : PS) : (nextM st).2.ss = st.ss ∧ (nextM st).2.g = st.g ∧ (nextM st).2.cells = st.cells := by
  unfold nextM
  split
  · exact ⟨rfl, rfl, rfl⟩
  split <;> exact ⟨rfl, rfl, rfl⟩
theorem symM_len (x : UInt8) (st : PS) (hs : st.s.length ≤ 30000) (hw : ∀ t ∈ st.ss, t.length ≤ 30000) : (symM x st).1.length ≤ 30000 := by
  unfold symM
  split
  · exact Nat.le_trans (text_len 40 st) hs
  split
  · split
    · rename_i h
      have hk : (numM maxN st).2.ss = st.ss := by
        unfold numM
        split
        · rfl
        split <;> rfl
      rw [hk] at h ⊢
      rw [List.getD_eq_getElem?_getD, List.getElem?_eq_getElem h.2]
      exact hw _ (List.getElem_mem _)
    · exact Nat.zero_le _
  · exact Nat.zero_le _
theorem valid_one {c : Cell} (hk : c.kind = 8) : ValidP [c] ↔ (plainS c && rangeB 1 c) = true := by
  unfold ValidP
  constructor
  · intro ⟨_, h, _⟩
    have := h c (by simp)
    rw [cell_eq]
    exact this
  · intro h
    refine ⟨by simp, fun d hd => ?_, fun d hd h7 => ?_⟩
    · obtain rfl := List.mem_singleton.1 hd
      rw [cell_eq] at h
      exact h
    · obtain rfl := List.mem_singleton.1 hd
      rw [hk] at h7
      exact absurd h7 (by decide)
theorem valid_class (t : B) : ValidP [⟨8, 0, t, [], []⟩] ↔ Go.Scan.icB t = true := by
  rw [valid_one rfl]
  unfold plainS rangeB
  simp [maxI]
theorem valid_name (t : B) : ValidP [⟨8, 0, [65], [t], [0]⟩] ↔ Go.Scan.iiB t = true := by
  rw [valid_one rfl]
  unfold plainS rangeB
  have h : Go.Scan.icB [65] = true := by decide +kernel
  simp [maxI, h]
end Go.Marshal
namespace Go.Proofs.YtgogonnnojcioaaGreatDoor
open Go.AX Go.RowKit Go.Core Go.Marshal
set_option maxRecDepth 20000

theorem RdOk.same {st st' : PS} {p : RdP} (ok : RdOk st p) (h : st'.ss = st.ss ∧ st'.g = st.g ∧ st'.cells = st.cells) : RdOk st' p :=
  ⟨by rw [h.2.1]; exact ok.g, ok.cell, ok.ga, by rw [h.2.2]; exact ok.ca, by rw [h.1]; exact ok.sa, by rw [h.1]; exact ok.sw, ok.gx⟩
theorem sym_keep (x : UInt8) (st : PS) : (symM x st).2.g = st.g ∧ (symM x st).2.cells = st.cells := by
  have kt := text_keep 40 st
  have kn := num_keep maxN st
  unfold symM
  split
  · simp only
    split
    · have k4 := fail_ss (textM 40 st).2 4
      exact ⟨by rw [k4.2.1, kt.2.1], by rw [k4.2.2, kt.2.2]⟩
    · exact kt.2
  split
  · split
    · exact kn.2
    · have k4 := fail_ss (numM maxN st).2 4
      exact ⟨by rw [k4.2.1, kn.2.1], by rw [k4.2.2, kn.2.2]⟩
  · exact (fail_ss st 4).2
theorem sym_sw (x : UInt8) (st : PS) (hs : st.s.length ≤ 30000) (hw : ∀ t ∈ st.ss, t.length ≤ 30000) : ∀ t ∈ (symM x st).2.ss, t.length ≤ 30000 := by
  have kt := text_keep 40 st
  have kn := num_keep maxN st
  have tl := text_len 40 st
  unfold symM
  split
  · intro t ht
    simp only at ht
    rw [kt.1] at ht
    rcases List.mem_append.1 ht with h | h
    · exact hw t h
    · rw [List.mem_singleton.1 h]; omega
  split
  · split
    · rw [kn.1]; exact hw
    · rw [(fail_ss _ _).1, kn.1]; exact hw
  · rw [(fail_ss _ _).1]; exact hw
theorem RdOk.sym {st : PS} {p : RdP} (ok : RdOk st p) (hs : st.s.length ≤ 30000) (x : UInt8) {i : Option Addr × Nat} (hi : i.1 = none → (symM x st).2.ss = []) : RdOk (symM x st).2 { p with sa := i.1, sc := i.2 } :=
  ⟨by rw [(sym_keep x st).1]; exact ok.g, ok.cell, ok.ga, by rw [(sym_keep x st).2]; exact ok.ca, hi, sym_sw x st hs ok.sw, ok.gx⟩
end Go.Proofs.YtgogonnnojcioaaGreatDoor
