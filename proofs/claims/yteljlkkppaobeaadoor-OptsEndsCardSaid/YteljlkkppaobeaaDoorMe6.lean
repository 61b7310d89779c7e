/-
  Lemmas (C10 Ax43 C11 C12 Ax27 Ax37 C13 R1 W4 E1 P6 E2 C14 Ax45).
-/
import Derived.Lay
import Derived.PinnedBridge
import Derived.Test.YteljlkkppaobeaaDoorMe5
/-
  Contract: read (program).
-/
namespace Go.Proofs.YteljlkkppaobeaaDoor
open Go.AX Go.RowKit Go.Opts
set_option maxRecDepth 20000

theorem readS_step {l : List Opt} {W : List (List UInt8)} {m : Nat} {s : PS} {w : List UInt8} (h : W[s.at_]? = some w) : readS l W false (m + 1) s = match stepS l W false w s with
    | (s', e) => if e = 0 then readS l W false m s' else (s', s.at_, e) := by
  conv => lhs; unfold readS
  rw [h]
theorem readS_end {l : List Opt} {W : List (List UInt8)} {m : Nat} {s : PS} (h : W.length ≤ s.at_) : readS l W false m s = (s, 0, 0) := by
  cases m with
  | zero => rfl
  | succ m =>
    unfold readS
    rw [List.getElem?_eq_none h]
set_option maxHeartbeats 2000000 in
theorem read_c (R : RL) (l : List Opt) (W : List (List UInt8)) (at0_ : Nat) (v0 : Nat → VL) (g0 : List Int) (left0 : VL) (n0 : Nat) (ok : RdOk R l W) (hW200 : W.length ≤ 200) (hwc : W.length ≤ R.wc) (hWl : ∀ w ∈ W, w.length ≤ 4000) (hg0 : g0.length = l.length) (hat0 : at0_ ≤ W.length) (hv0 : ∀ j, (v0 j).xs.length ≤ at0_ * 4001) (hl0 : left0.xs.length ≤ at0_) (hc0 : left0.xs.length ≤ left0.c) (hn0 : W.length < n0 + at0_) :
    SpecH Tryd.prog 18 [.c (.v (.pointer (some ⟨R.rb, 0, none⟩))), .c (.v (.bool false))] (rdH R l W at0_ v0 g0 left0)
      (RetG (ι := (Nat → VL) × VL) (fun x => (∀ j, (x.1 j).xs = (readS l W false n0 (psOf at0_ v0 g0 left0)).1.vals j) ∧ x.2.xs = (readS l W false n0 (psOf at0_ v0 g0 left0)).1.left ∧ x.2.xs.length ≤ x.2.c) (fun _ => .tuple #[.int .i64 ((readS l W false n0 (psOf at0_ v0 g0 left0)).2.1 : Int), .int .i64 (readS l W false n0 (psOf at0_ v0 g0 left0)).2.2])
        fun x => rdH R l W (readS l W false n0 (psOf at0_ v0 g0 left0)).1.at_ x.1 (readS l W false n0 (psOf at0_ v0 g0 left0)).1.given x.2) := by
  refine ownC hm Tryd.func18 (by kernel_rfl) rfl rfl (fun _ _ => okHB_eq rfl) (fun _ _ => Nat.le_refl _) ?_
  generalize hR : readS l W false n0 (psOf at0_ v0 g0 left0) = r
  (first | refine wX ?_ | exact wZ)
  refine LoopN.intro (Nat × (Nat → VL) × List Int × VL × Nat) (fun ⟨at_, v, g, left, n⟩ => at_ ≤ W.length ∧ g.length = l.length ∧ (∀ j, (v j).xs.length ≤ at_ * 4001) ∧ left.xs.length ≤ at_ ∧ left.xs.length ≤ left.c ∧ W.length < n + at_ ∧ readS l W false n (psOf at_ v g left) = r)
    (fun ⟨_, _, _, _, _⟩ => mkS Tryd.f18.ntmps 0 [(0, .c (.v (.pointer (some ⟨R.rb, 0, none⟩)))), (1, .c (.v (.bool false))), (4, .c (.v (.int .i64 0))), (5, .c (.v (.int .i64 0)))])
    (fun ⟨at_, v, g, left, _⟩ => rdH R l W at_ v g left) (fun ⟨at_, _, _, _, _⟩ => W.length - at_) [] rfl (fun _ => rfl) (fun _ => rfl) (fun _ _ => okHB_eq rfl) ⟨⟨at0_, v0, g0, left0, n0⟩, ⟨hat0, hg0, hv0, hl0, hc0, hn0, hR⟩, ?_, ⟨wkE_refl _, wkE_refl _, wkE_refl _, wkE_refl _, wkE_refl _, wkE_refl _, wkE_refl _, wkE_refl _, wkE_refl _, wkE_refl _, wkE_refl _, wkE_refl _, wkE_refl _, wkH_nil _⟩⟩ ?_
  · (repeat' (first | exact trivial | refine And.intro (by with_reducible rfl) ?_ | (with_reducible exact wkC_refl _) | (with_reducible exact wkCs_refl _) | refine And.intro ?_ ?_))
    all_goals rfl
  rintro ⟨at_, v, g, left, n⟩ ⟨hat, hg, hv, hll, hlc, hn, he⟩
  (first | refine wX ?_ | exact wZ)
  -- 2: the field, .int .i64 (at_ : Int): the value
  refine LdN.one (a := some ⟨R.rb, 0, none⟩) (q := 2) (.int .i64 (at_ : Int)) rfl (fun w hw => hw.2.1) rfl ?_
  (first | refine wX ?_ | exact wZ)
  -- 1: the field, .slice R.wa W.length R.wc: the value
  refine LdN.one (a := some ⟨R.rb, 0, none⟩) (q := 1) (.slice R.wa W.length R.wc) rfl (fun w hw => hw.2.1) rfl ?_
  (first | refine wX ?_ | exact wZ)
  refine brd_dec (fun h1 => ?_) (fun h1 => ?_)
  · obtain ⟨word, hw⟩ : ∃ w, W[at_]? = some w := ⟨_, List.getElem?_eq_getElem (by omega)⟩
    have hwl := hWl word (List.mem_of_getElem? hw)
    have hz := bs_size word
    have hsa : R.wa.isSome = true := by
      cases hr : R.wa with
      | none => rw [ok.wa hr] at hw; cases hw
      | some b => rfl
    obtain ⟨m, rfl⟩ : ∃ k, n = k + 1 := ⟨n - 1, by omega⟩
    rw [readS_step (s := psOf at_ v g left) hw] at he
    have hat200 : at_ * 4001 ≤ 199 * 4001 := Nat.mul_le_mul_right _ (by omega)
    (first | refine wX ?_ | exact wZ)
    -- 2: the field, .int .i64 (at_ : Int): the value
    refine LdN.one (a := some ⟨R.rb, 0, none⟩) (q := 2) (.int .i64 (at_ : Int)) rfl (fun w hw => hw.2.1) rfl ?_
    (first | refine wX ?_ | exact wZ)
    -- 1: the field, .slice R.wa W.length R.wc: the value
    refine LdN.one (a := some ⟨R.rb, 0, none⟩) (q := 1) (.slice R.wa W.length R.wc) rfl (fun w hw => hw.2.1) rfl ?_
    (first | refine wX ?_ | exact wZ)
    refine Nd.mk ⟨hsa, by omega, by omega⟩ ?_
    (first | refine wX ?_ | exact wZ)
    refine LdN.one (.string (bs word)) rfl (fun w hw => hw.1.2.1) (by rw [Int.toNat_natCast]; show (strC W)[at_ * 1]? = _; rw [Nat.mul_one]; exact strC_get hw) ?_
    (first | refine wX ?_ | exact wZ)
    -- 2: the field, .int .i64 (at_ : Int): the value
    refine LdN.one (a := some ⟨R.rb, 0, none⟩) (q := 2) (.int .i64 (at_ : Int)) rfl (fun w hw => hw.2.1) rfl ?_
    (first | refine wX ?_ | exact wZ)
    refine EffW.appTo (i := 1) (q := 2) (ys := [_]) (rC R l.length W.length (at_ + 1) left) 6 rfl rfl rfl rfl rfl rfl rfl (Nat.le_of_ble_eq_true rfl) (by
      show [_, _, Value.int .i64 _, _, _, _] = [_, _, Value.int .i64 _, _, _, _]
      rw [wrap_i64 (by omega)]
      rfl) rfl ?_
    (first | refine wX ?_ | exact wZ)
    rw [show ((bs word).data.toList == (⟨#[45, 45]⟩ : ByteArray).data.toList) = (word == [45, 45]) by rw [bs_list]]
    cases hb : word == [45, 45] with
    | true =>
      have hst : stepS l W false word (psOf at_ v g left) = ({ psOf at_ v g left with at_ := W.length, left := left.xs ++ W.drop (at_ + 1) }, 0) := by
        unfold stepS
        rw [if_pos hb]
        rfl
      (first | refine wX ?_ | exact wZ)
      refine DrawN.plan [0, 1, 6, 10] [(2, 1), (3, 1), (4, 1), (5, 1), (7, 1), (8, 1), (9, 1), (11, 1), (12, 1), (13, 1), (14, 1)] [(15, 0), (16, 0), (17, 0), (18, 0), (19, 0)] (by decide +kernel) ?_
      (first | refine wX ?_ | exact wZ)
      -- 5: the field, vlV left: the value
      refine LdN.one (a := some ⟨R.rb, 0, none⟩) (q := 5) (vlV left) rfl (fun w hw => hw.2.1) rfl ?_
      (first | refine wX ?_ | exact wZ)
      -- 1: the field, .slice R.wa W.length R.wc: the value
      refine LdN.one (a := some ⟨R.rb, 0, none⟩) (q := 1) (.slice R.wa W.length R.wc) rfl (fun w hw => hw.2.1) rfl ?_
      (first | refine wX ?_ | exact wZ)
      -- 2: the field, .int .i64 ((at_ + 1 : Nat) : Int): the value
      refine LdN.one (a := some ⟨R.rb, 0, none⟩) (q := 2) (.int .i64 ((at_ + 1 : Nat) : Int)) rfl (fun w hw => hw.2.1) rfl ?_
      (first | refine wX ?_ | exact wZ)
      by_cases hm0 : W.length = at_ + 1
      · refine ReadW.slc_lo (sz := 1) (at_ + 1) 0 _ rfl Tryd.underlying23 rfl rfl rfl rfl ⟨rfl, by omega, hwc⟩ (by omega) rfl ?_
        have hdr : W.drop (at_ + 1) = [] := List.drop_of_length_le (by omega)
        rw [hdr, List.append_nil] at hst
        (conv => whnf)
        refine Nd.mk hlc ?_
        (first | refine wX ?_ | exact wZ)
        refine EffW.appTo (i := 1) (q := 5) (ys := [_]) (rC R l.length W.length (at_ + 1) left) 6 rfl rfl rfl rfl rfl rfl rfl (Nat.le_of_ble_eq_true rfl) rfl rfl ?_
        (first | refine wX ?_ | exact wZ)
        -- 1: the field, .slice R.wa W.length R.wc: the value
        refine LdN.one (a := some ⟨R.rb, 0, none⟩) (q := 1) (.slice R.wa W.length R.wc) rfl (fun w hw => hw.2.1) rfl ?_
        (first | refine wX ?_ | exact wZ)
        refine EffW.appTo (i := 1) (q := 2) (ys := [_]) (rC R l.length W.length W.length left) 6 rfl rfl rfl rfl rfl rfl rfl (Nat.le_of_ble_eq_true rfl) rfl rfl ?_
        (first | refine wX ?_ | exact wZ)
        -- the same where there is no error; wkE_refl _, wkE_refl _, wkE_refl _, wkE_refl _, wkE_refl _, wkE_refl _, wkE_refl _, wkE_refl _, wkE_refl _, wkE_refl _, wkE_refl _, wkE_refl _, wkE_refl _, wkH_nil _: the entries, ({ psOf at_ v g left with at_ := W.length, left := left.xs } : PS): the state, left: what is left, hlc: its length
        have hsa1 := step_at (by show at_ < W.length; omega) hst
        have hgr1 := step_grow (l := l) (W := W) (stop := false) (w := word) (s := psOf at_ v g left) (n := at_ * 4001) (fun j => hv j)
        rw [hst] at hgr1
        rw [hst] at he
        have hlc' : (left : VL).xs.length ≤ (left : VL).c := hlc
        have he2 : readS l W false m ({ psOf at_ v g left with at_ := W.length, left := left.xs } : PS) = r := he
        have hps : psOf ({ psOf at_ v g left with at_ := W.length, left := left.xs } : PS).at_ v ({ psOf at_ v g left with at_ := W.length, left := left.xs } : PS).given left = ({ psOf at_ v g left with at_ := W.length, left := left.xs } : PS) := ps_eq (r := ({ psOf at_ v g left with at_ := W.length, left := left.xs } : PS)) (v' := v) (left := left) (fun _ => rfl) (by exact Eq.symm (rfl))
        refine ⟨⟨({ psOf at_ v g left with at_ := W.length, left := left.xs } : PS).at_, v, ({ psOf at_ v g left with at_ := W.length, left := left.xs } : PS).given, left, m⟩, ⟨hsa1.2.1, by rw [hsa1.2.2.1]; exact hg, fun j => ?_, (by have h9 := hsa1.2.2.2 hll; have h8 : (left : VL).xs = ({ psOf at_ v g left with at_ := W.length, left := left.xs } : PS).left := rfl; rw [h8]; exact h9), hlc', by have h9 : at_ < ({ psOf at_ v g left with at_ := W.length, left := left.xs } : PS).at_ := hsa1.1; omega, by rw [hps]; exact he2⟩, by have h9 : at_ < ({ psOf at_ v g left with at_ := W.length, left := left.xs } : PS).at_ := hsa1.1; have h8 : ({ psOf at_ v g left with at_ := W.length, left := left.xs } : PS).at_ ≤ W.length := hsa1.2.1; show W.length - ({ psOf at_ v g left with at_ := W.length, left := left.xs } : PS).at_ < W.length - at_; omega, ?_, ⟨wkE_refl _, wkE_refl _, wkE_refl _, wkE_refl _, wkE_refl _, wkE_refl _, wkE_refl _, wkE_refl _, wkE_refl _, wkE_refl _, wkE_refl _, wkE_refl _, wkE_refl _, wkH_nil _⟩⟩
        · have h7 := hgr1 j
          have h3 : (v j).xs = ({ psOf at_ v g left with at_ := W.length, left := left.xs } : PS).vals j := (fun _ => rfl) j
          rw [h3]
          have h9 : at_ < ({ psOf at_ v g left with at_ := W.length, left := left.xs } : PS).at_ := hsa1.1
          have h6 : (({ psOf at_ v g left with at_ := W.length, left := left.xs } : PS).vals j).length ≤ at_ * 4001 + (word.length + 1) := h7
          have h5 : (at_ + 1) * 4001 ≤ ({ psOf at_ v g left with at_ := W.length, left := left.xs } : PS).at_ * 4001 := Nat.mul_le_mul_right _ h9
          omega
        · (repeat' (first | exact trivial | refine And.intro (by with_reducible rfl) ?_ | (with_reducible exact wkC_refl _) | (with_reducible exact wkCs_refl _) | refine And.intro ?_ ?_))
          all_goals rfl
      · obtain ⟨k, hk⟩ : ∃ k, W.length - (at_ + 1) = k + 1 := ⟨W.length - (at_ + 1) - 1, by omega⟩
        obtain ⟨x, hx⟩ := Option.isSome_iff_exists.1 hsa
        rw [hx]
        refine ReadW.slc_lo (sz := 1) (at_ + 1) (k + 1) (some (x.add (at_ + 1))) rfl Tryd.underlying23 rfl rfl rfl rfl ⟨rfl, by omega, hwc⟩ hk (by rw [if_neg (by omega), Nat.mul_one]; rfl) ?_
        have hdl : (W.drop (at_ + 1)).length = k + 1 := by rw [List.length_drop]; exact hk
        generalize hD : W.drop (at_ + 1) = D at *
        (conv => whnf)
        try refine Nd.mk rfl ?_
        (conv => whnf)
        refine ApN.intro (strC D) (by show _ = (k + 1) * 1; simp [strC, hdl]) (fun u hu => by obtain ⟨c, _, rfl⟩ := List.mem_map.1 hu; rfl) (fun w hw j u hj => by
          have h1 := hw.1.2.1.2.2
          have hjl : j < k + 1 := by
            have := (List.getElem?_eq_some_iff.1 hj).1
            rw [← hdl]
            simpa [strC] using this
          have h2 := h1 (at_ + 1 + j) (by omega)
          rw [hx] at h2
          show w.cell? ((x.add (at_ + 1)).add j) = _
          rw [Addr.add_add]
          refine h2.trans ?_
          rw [← hj, ← hD]
          simp [strC, List.map_drop, List.getElem?_drop]) ?_
        (conv => whnf)
        refine AppN.grow 4 (strC left.xs) (strC D) rfl (plains_vs _) ⟨by omega, ⟨by show (left.xs.length + (k + 1)) * 16 ≤ _; omega, by show left.xs.length + (k + 1) < _; omega⟩, Nat.one_ne_zero⟩ fun b1 c1 h11 h12 => ?_
        (first | refine wX ?_ | exact wZ)
        have hll2 : (left.xs ++ D).length = left.xs.length + (k + 1) := by rw [List.length_append, hdl]
        refine EffW.appTo (i := 1) (q := 5) (ys := [_]) (rC R l.length W.length (at_ + 1) ⟨left.xs ++ D, some b1, c1⟩) 6 rfl rfl rfl rfl rfl rfl rfl (Nat.le_of_ble_eq_true rfl) (by
          show [_, _, _, _, _, Value.slice _ (left.xs.length + (k + 1)) _] = [_, _, _, _, _, Value.slice _ (left.xs ++ D).length _]
          rw [hll2]
          rfl) rfl ?_
        (first | refine wX ?_ | exact wZ)
        -- 1: the field, .slice R.wa W.length R.wc: the value
        refine LdN.one (a := some ⟨R.rb, 0, none⟩) (q := 1) (.slice R.wa W.length R.wc) rfl (fun w hw => hw.2.1) rfl ?_
        (first | refine wX ?_ | exact wZ)
        refine EffW.appTo (i := 1) (q := 2) (ys := [_]) (rC R l.length W.length W.length ⟨left.xs ++ D, some b1, c1⟩) 6 rfl rfl rfl rfl rfl rfl rfl (Nat.le_of_ble_eq_true rfl) rfl rfl ?_
        (first | refine wX ?_ | exact wZ)
        have hsn : strC left.xs ++ strC D = strC (left.xs ++ D) := by simp [strC]
        -- the same where there is no error; wkE_refl _, wkE_refl _, wkE_refl _, wkE_refl _, .inl ⟨rfl, rfl, hsn, rfl, hll2.symm, rfl⟩, wkE_refl _, wkE_refl _, wkE_refl _, wkE_refl _, wkE_refl _, wkE_refl _, wkE_refl _, wkE_refl _, wkH_nil _: the entries, ({ psOf at_ v g left with at_ := W.length, left := left.xs ++ D } : PS): the state, ⟨left.xs ++ D, some b1, c1⟩: what is left, by rw [hll2]; exact h11: its length
        have hsa1 := step_at (by show at_ < W.length; omega) hst
        have hgr1 := step_grow (l := l) (W := W) (stop := false) (w := word) (s := psOf at_ v g left) (n := at_ * 4001) (fun j => hv j)
        rw [hst] at hgr1
        rw [hst] at he
        have hlc' : (⟨left.xs ++ D, some b1, c1⟩ : VL).xs.length ≤ (⟨left.xs ++ D, some b1, c1⟩ : VL).c := by rw [hll2]; exact h11
        have he2 : readS l W false m ({ psOf at_ v g left with at_ := W.length, left := left.xs ++ D } : PS) = r := he
        have hps : psOf ({ psOf at_ v g left with at_ := W.length, left := left.xs ++ D } : PS).at_ v ({ psOf at_ v g left with at_ := W.length, left := left.xs ++ D } : PS).given ⟨left.xs ++ D, some b1, c1⟩ = ({ psOf at_ v g left with at_ := W.length, left := left.xs ++ D } : PS) := ps_eq (r := ({ psOf at_ v g left with at_ := W.length, left := left.xs ++ D } : PS)) (v' := v) (left := ⟨left.xs ++ D, some b1, c1⟩) (fun _ => rfl) (by exact Eq.symm (rfl))
        refine ⟨⟨({ psOf at_ v g left with at_ := W.length, left := left.xs ++ D } : PS).at_, v, ({ psOf at_ v g left with at_ := W.length, left := left.xs ++ D } : PS).given, ⟨left.xs ++ D, some b1, c1⟩, m⟩, ⟨hsa1.2.1, by rw [hsa1.2.2.1]; exact hg, fun j => ?_, (by have h9 := hsa1.2.2.2 hll; have h8 : (⟨left.xs ++ D, some b1, c1⟩ : VL).xs = ({ psOf at_ v g left with at_ := W.length, left := left.xs ++ D } : PS).left := rfl; rw [h8]; exact h9), hlc', by have h9 : at_ < ({ psOf at_ v g left with at_ := W.length, left := left.xs ++ D } : PS).at_ := hsa1.1; omega, by rw [hps]; exact he2⟩, by have h9 : at_ < ({ psOf at_ v g left with at_ := W.length, left := left.xs ++ D } : PS).at_ := hsa1.1; have h8 : ({ psOf at_ v g left with at_ := W.length, left := left.xs ++ D } : PS).at_ ≤ W.length := hsa1.2.1; show W.length - ({ psOf at_ v g left with at_ := W.length, left := left.xs ++ D } : PS).at_ < W.length - at_; omega, ?_, ⟨wkE_refl _, wkE_refl _, wkE_refl _, wkE_refl _, .inl ⟨rfl, rfl, hsn, rfl, hll2.symm, rfl⟩, wkE_refl _, wkE_refl _, wkE_refl _, wkE_refl _, wkE_refl _, wkE_refl _, wkE_refl _, wkE_refl _, wkH_nil _⟩⟩
        · have h7 := hgr1 j
          have h3 : (v j).xs = ({ psOf at_ v g left with at_ := W.length, left := left.xs ++ D } : PS).vals j := (fun _ => rfl) j
          rw [h3]
          have h9 : at_ < ({ psOf at_ v g left with at_ := W.length, left := left.xs ++ D } : PS).at_ := hsa1.1
          have h6 : (({ psOf at_ v g left with at_ := W.length, left := left.xs ++ D } : PS).vals j).length ≤ at_ * 4001 + (word.length + 1) := h7
          have h5 : (at_ + 1) * 4001 ≤ ({ psOf at_ v g left with at_ := W.length, left := left.xs ++ D } : PS).at_ * 4001 := Nat.mul_le_mul_right _ h9
          omega
        · (repeat' (first | exact trivial | refine And.intro (by with_reducible rfl) ?_ | (with_reducible exact wkC_refl _) | (with_reducible exact wkCs_refl _) | refine And.intro ?_ ?_))
          all_goals rfl
    | false =>
      (first | refine wX ?_ | exact wZ)
      rw [show (⟨#[45, 45]⟩ : ByteArray) = bs [45, 45] from rfl]
      refine call1 (HasPrefix_c word [45, 45] _) ?_
      cases hp : ([45, 45] : List UInt8).isPrefixOf word with
      | true =>
        have hst0 : stepS l W false word (psOf at_ v g left) = longS l W word (psOf (at_ + 1) v g left) := by
          unfold stepS
          rw [if_neg (by rw [hb]; simp), if_pos hp]
          rfl
        have h2 : 2 ≤ word.length := by
          have := (List.isPrefixOf_iff_prefix.1 hp).length_le
          exact this
        have hlr := long_at (s := psOf (at_ + 1) v g left) (l := l) (W := W) (w := word) (s' := (longS l W word (psOf (at_ + 1) v g left)).1) (e := (longS l W word (psOf (at_ + 1) v g left)).2) rfl
        (first | refine wX ?_ | exact wZ)
        refine callG (long_c R l W (at_ + 1) v g left word ok hg (by omega) (fun j => by have := hv j; omega) h2 (by omega)) [0, 1, 2, 3, 4, 5, 6, 7, 8, 9, 10, 11, 12] rfl ⟨rfl, rfl, rfl, rfl, rfl, rfl, rfl, rfl, rfl, rfl, rfl, rfl, rfl, trivial⟩ rfl fun v' hv' => ?_
        generalize longS l W word (psOf (at_ + 1) v g left) = q at *
        obtain ⟨s1, e⟩ := q
        have hst := hst0
        obtain ⟨left', hle⟩ : ∃ x, x = left := ⟨_, rfl⟩
        have hln : left'.xs = s1.left := by rw [hle]; exact hlr.2.2.1.symm
        have hlc' : left'.xs.length ≤ left'.c := by rw [hle]; exact hlc
        rw [← hle]
        (first | refine wX ?_ | exact wZ)
        -- hst: what the step gives (s1, e), hvl: what lies there (v', left'), hln: left'
        have hsa1 := step_at (by show at_ < W.length; omega) hst
        have hgr1 := step_grow (l := l) (W := W) (stop := false) (w := word) (s := psOf at_ v g left) (n := at_ * 4001) (fun j => hv j)
        rw [hst] at hgr1
        rw [hst] at he
        refine brd_ne (fun h4 => ?_) (fun h4 => ?_)
        · obtain rfl : (s1, at_, e) = r := by
            rw [← he]
            exact (if_neg h4).symm
          (first | refine wX ?_ | exact wZ)
          exact ⟨(v', left'), ⟨hv', hln, hlc'⟩, rfl, wkE_refl _, wkE_refl _, wkE_refl _, wkE_refl _, wkE_refl _, wkE_refl _, wkE_refl _, wkE_refl _, wkE_refl _, wkE_refl _, wkE_refl _, wkE_refl _, wkE_refl _, wkH_nil _⟩
        obtain rfl : e = 0 := h4
        (first | refine wX ?_ | exact wZ)
        have he2 : readS l W false m s1 = r := he
        have hps : psOf s1.at_ v' s1.given left' = s1 := ps_eq (r := s1) (v' := v') (left := left') (hv') (by exact Eq.symm (hln))
        refine ⟨⟨s1.at_, v', s1.given, left', m⟩, ⟨hsa1.2.1, by rw [hsa1.2.2.1]; exact hg, fun j => ?_, (by have h9 := hsa1.2.2.2 hll; have h8 : (left' : VL).xs = s1.left := hln; rw [h8]; exact h9), hlc', by have h9 : at_ < s1.at_ := hsa1.1; omega, by rw [hps]; exact he2⟩, by have h9 : at_ < s1.at_ := hsa1.1; have h8 : s1.at_ ≤ W.length := hsa1.2.1; show W.length - s1.at_ < W.length - at_; omega, ?_, ⟨wkE_refl _, wkE_refl _, wkE_refl _, wkE_refl _, wkE_refl _, wkE_refl _, wkE_refl _, wkE_refl _, wkE_refl _, wkE_refl _, wkE_refl _, wkE_refl _, wkE_refl _, wkH_nil _⟩⟩
        · have h7 := hgr1 j
          have h3 : (v' j).xs = s1.vals j := (hv') j
          rw [h3]
          have h9 : at_ < s1.at_ := hsa1.1
          have h6 : (s1.vals j).length ≤ at_ * 4001 + (word.length + 1) := h7
          have h5 : (at_ + 1) * 4001 ≤ s1.at_ * 4001 := Nat.mul_le_mul_right _ h9
          omega
        · (repeat' (first | exact trivial | refine And.intro (by with_reducible rfl) ?_ | (with_reducible exact wkC_refl _) | (with_reducible exact wkCs_refl _) | refine And.intro ?_ ?_))
          all_goals rfl
      | false =>
        obtain ⟨c, hc⟩ : ∃ c, word.head? = c := ⟨_, rfl⟩
        (first | refine wX ?_ | exact wZ)
        rw [hz]
        refine brd_dec (fun h6 => ?_) (fun h6 => ?_)
        · obtain ⟨c, hc⟩ : ∃ c, word[0]? = some c := ⟨_, List.getElem?_eq_getElem (by omega)⟩
          have hpc : ([45] : List UInt8).isPrefixOf word = (c == 45) := by
            cases word with
            | nil => cases hc
            | cons d r =>
              cases hc
              show (45 == c && true) = (c == 45)
              rw [Bool.and_true, Bool.eq_iff_iff, beq_iff_eq, beq_iff_eq]
              exact ⟨Eq.symm, Eq.symm⟩
          (first | refine wX ?_ | exact wZ)
          rw [show byteAt (bs word) (Int.toNat 0) = (c.toNat : Int) from byteAt_get hc, show ((c.toNat : Int) == 45) = (c == 45) from u8_eq (n := 45) (by decide)]
          cases h45 : c == 45 with
          | true =>
            have hst0 : stepS l W false word (psOf at_ v g left) = shortS l W (word.drop 1) (psOf (at_ + 1) v g left) := by
              unfold stepS
              rw [if_neg (by rw [hb]; simp), if_neg (by rw [hp]; simp), if_pos (by rw [hpc, h45, decide_eq_true (by omega)]; rfl)]
              rfl
            have hlr := short_at (s := psOf (at_ + 1) v g left) (l := l) (W := W) (cs := word.drop 1) (s' := (shortS l W (word.drop 1) (psOf (at_ + 1) v g left)).1) (e := (shortS l W (word.drop 1) (psOf (at_ + 1) v g left)).2) rfl
            (first | refine wX ?_ | exact wZ)
            refine callG (short_c R l W (at_ + 1) v g left word ok hg (by omega) (fun j => by have := hv j; omega) (by omega)) [0, 1, 2, 3, 4, 5, 6, 7, 8, 9, 10, 11, 12] rfl ⟨rfl, rfl, rfl, rfl, rfl, rfl, rfl, rfl, rfl, rfl, rfl, rfl, rfl, trivial⟩ rfl fun v' hv' => ?_
            generalize shortS l W (word.drop 1) (psOf (at_ + 1) v g left) = q at *
            obtain ⟨s1, e⟩ := q
            have hst := hst0
            obtain ⟨left', hle⟩ : ∃ x, x = left := ⟨_, rfl⟩
            have hln : left'.xs = s1.left := by rw [hle]; exact hlr.2.2.1.symm
            have hlc' : left'.xs.length ≤ left'.c := by rw [hle]; exact hlc
            rw [← hle]
            (first | refine wX ?_ | exact wZ)
            -- hst: what the step gives (s1, e), hvl: what lies there (v', left'), hln: left'
            have hsa1 := step_at (by show at_ < W.length; omega) hst
            have hgr1 := step_grow (l := l) (W := W) (stop := false) (w := word) (s := psOf at_ v g left) (n := at_ * 4001) (fun j => hv j)
            rw [hst] at hgr1
            rw [hst] at he
            refine brd_ne (fun h4 => ?_) (fun h4 => ?_)
            · obtain rfl : (s1, at_, e) = r := by
                rw [← he]
                exact (if_neg h4).symm
              (first | refine wX ?_ | exact wZ)
              exact ⟨(v', left'), ⟨hv', hln, hlc'⟩, rfl, wkE_refl _, wkE_refl _, wkE_refl _, wkE_refl _, wkE_refl _, wkE_refl _, wkE_refl _, wkE_refl _, wkE_refl _, wkE_refl _, wkE_refl _, wkE_refl _, wkE_refl _, wkH_nil _⟩
            obtain rfl : e = 0 := h4
            (first | refine wX ?_ | exact wZ)
            have he2 : readS l W false m s1 = r := he
            have hps : psOf s1.at_ v' s1.given left' = s1 := ps_eq (r := s1) (v' := v') (left := left') (hv') (by exact Eq.symm (hln))
            refine ⟨⟨s1.at_, v', s1.given, left', m⟩, ⟨hsa1.2.1, by rw [hsa1.2.2.1]; exact hg, fun j => ?_, (by have h9 := hsa1.2.2.2 hll; have h8 : (left' : VL).xs = s1.left := hln; rw [h8]; exact h9), hlc', by have h9 : at_ < s1.at_ := hsa1.1; omega, by rw [hps]; exact he2⟩, by have h9 : at_ < s1.at_ := hsa1.1; have h8 : s1.at_ ≤ W.length := hsa1.2.1; show W.length - s1.at_ < W.length - at_; omega, ?_, ⟨wkE_refl _, wkE_refl _, wkE_refl _, wkE_refl _, wkE_refl _, wkE_refl _, wkE_refl _, wkE_refl _, wkE_refl _, wkE_refl _, wkE_refl _, wkE_refl _, wkE_refl _, wkH_nil _⟩⟩
            · have h7 := hgr1 j
              have h3 : (v' j).xs = s1.vals j := (hv') j
              rw [h3]
              have h9 : at_ < s1.at_ := hsa1.1
              have h6 : (s1.vals j).length ≤ at_ * 4001 + (word.length + 1) := h7
              have h5 : (at_ + 1) * 4001 ≤ s1.at_ * 4001 := Nat.mul_le_mul_right _ h9
              omega
            · (repeat' (first | exact trivial | refine And.intro (by with_reducible rfl) ?_ | (with_reducible exact wkC_refl _) | (with_reducible exact wkCs_refl _) | refine And.intro ?_ ?_))
              all_goals rfl
          | false =>
            have hst : stepS l W false word (psOf at_ v g left) = ({ psOf at_ v g left with at_ := at_ + 1, left := left.xs ++ [word] }, 0) := by
              unfold stepS
              rw [if_neg (by rw [hb]; simp), if_neg (by rw [hp]; simp), if_neg (by rw [hpc, h45]; simp)]
              rfl
            (first | refine wX ?_ | exact wZ)
            -- 5: the field, vlV left: the value
            refine LdN.one (a := some ⟨R.rb, 0, none⟩) (q := 5) (vlV left) rfl (fun w hw => hw.2.1) rfl ?_
            (first | refine wX ?_ | exact wZ)
            try refine Nd.mk ⟨Nat.le_refl 1, rfl, rfl⟩ ?_
            (conv => whnf)
            refine AppN.grow 4 (strC left.xs) [.string (bs word)] rfl rfl ⟨Nat.le_refl 1, ⟨by show (left.xs.length + 1) * 16 ≤ _; omega, by show left.xs.length + 1 < _; omega⟩, Nat.one_ne_zero⟩ fun b1 c1 h11 h12 => ?_
            (first | refine wX ?_ | exact wZ)
            have hll2 : (left.xs ++ [word]).length = left.xs.length + 1 := by simp
            refine EffW.appTo (i := 1) (q := 5) (ys := [_]) (rC R l.length W.length (at_ + 1) ⟨left.xs ++ [word], some b1, c1⟩) 6 rfl rfl rfl rfl rfl rfl rfl (Nat.le_of_ble_eq_true rfl) (by
              show [_, _, _, _, _, Value.slice _ (left.xs.length + 1) _] = [_, _, _, _, _, Value.slice _ (left.xs ++ [word]).length _]
              rw [hll2]
              rfl) rfl ?_
            (first | refine wX ?_ | exact wZ)
            -- the same where there is no error; wkE_refl _, wkE_refl _, wkE_refl _, wkE_refl _, .inl ⟨rfl, rfl, strC_snoc _ _, rfl, hll2.symm, rfl⟩, wkE_refl _, wkE_refl _, wkE_refl _, wkE_refl _, wkE_refl _, wkE_refl _, wkE_refl _, wkE_refl _, wkH_nil _: the entries, ({ psOf at_ v g left with at_ := at_ + 1, left := left.xs ++ [word] } : PS): the state, ⟨left.xs ++ [word], some b1, c1⟩: what is left, by rw [hll2]; exact h11: its length
            have hsa1 := step_at (by show at_ < W.length; omega) hst
            have hgr1 := step_grow (l := l) (W := W) (stop := false) (w := word) (s := psOf at_ v g left) (n := at_ * 4001) (fun j => hv j)
            rw [hst] at hgr1
            rw [hst] at he
            have hlc' : (⟨left.xs ++ [word], some b1, c1⟩ : VL).xs.length ≤ (⟨left.xs ++ [word], some b1, c1⟩ : VL).c := by rw [hll2]; exact h11
            have he2 : readS l W false m ({ psOf at_ v g left with at_ := at_ + 1, left := left.xs ++ [word] } : PS) = r := he
            have hps : psOf ({ psOf at_ v g left with at_ := at_ + 1, left := left.xs ++ [word] } : PS).at_ v ({ psOf at_ v g left with at_ := at_ + 1, left := left.xs ++ [word] } : PS).given ⟨left.xs ++ [word], some b1, c1⟩ = ({ psOf at_ v g left with at_ := at_ + 1, left := left.xs ++ [word] } : PS) := ps_eq (r := ({ psOf at_ v g left with at_ := at_ + 1, left := left.xs ++ [word] } : PS)) (v' := v) (left := ⟨left.xs ++ [word], some b1, c1⟩) (fun _ => rfl) (by exact Eq.symm (rfl))
            refine ⟨⟨({ psOf at_ v g left with at_ := at_ + 1, left := left.xs ++ [word] } : PS).at_, v, ({ psOf at_ v g left with at_ := at_ + 1, left := left.xs ++ [word] } : PS).given, ⟨left.xs ++ [word], some b1, c1⟩, m⟩, ⟨hsa1.2.1, by rw [hsa1.2.2.1]; exact hg, fun j => ?_, (by have h9 := hsa1.2.2.2 hll; have h8 : (⟨left.xs ++ [word], some b1, c1⟩ : VL).xs = ({ psOf at_ v g left with at_ := at_ + 1, left := left.xs ++ [word] } : PS).left := rfl; rw [h8]; exact h9), hlc', by have h9 : at_ < ({ psOf at_ v g left with at_ := at_ + 1, left := left.xs ++ [word] } : PS).at_ := hsa1.1; omega, by rw [hps]; exact he2⟩, by have h9 : at_ < ({ psOf at_ v g left with at_ := at_ + 1, left := left.xs ++ [word] } : PS).at_ := hsa1.1; have h8 : ({ psOf at_ v g left with at_ := at_ + 1, left := left.xs ++ [word] } : PS).at_ ≤ W.length := hsa1.2.1; show W.length - ({ psOf at_ v g left with at_ := at_ + 1, left := left.xs ++ [word] } : PS).at_ < W.length - at_; omega, ?_, ⟨wkE_refl _, wkE_refl _, wkE_refl _, wkE_refl _, .inl ⟨rfl, rfl, strC_snoc _ _, rfl, hll2.symm, rfl⟩, wkE_refl _, wkE_refl _, wkE_refl _, wkE_refl _, wkE_refl _, wkE_refl _, wkE_refl _, wkE_refl _, wkH_nil _⟩⟩
            · have h7 := hgr1 j
              have h3 : (v j).xs = ({ psOf at_ v g left with at_ := at_ + 1, left := left.xs ++ [word] } : PS).vals j := (fun _ => rfl) j
              rw [h3]
              have h9 : at_ < ({ psOf at_ v g left with at_ := at_ + 1, left := left.xs ++ [word] } : PS).at_ := hsa1.1
              have h6 : (({ psOf at_ v g left with at_ := at_ + 1, left := left.xs ++ [word] } : PS).vals j).length ≤ at_ * 4001 + (word.length + 1) := h7
              have h5 : (at_ + 1) * 4001 ≤ ({ psOf at_ v g left with at_ := at_ + 1, left := left.xs ++ [word] } : PS).at_ * 4001 := Nat.mul_le_mul_right _ h9
              omega
            · (repeat' (first | exact trivial | refine And.intro (by with_reducible rfl) ?_ | (with_reducible exact wkC_refl _) | (with_reducible exact wkCs_refl _) | refine And.intro ?_ ?_))
              all_goals rfl
        · have hst : stepS l W false word (psOf at_ v g left) = ({ psOf at_ v g left with at_ := at_ + 1, left := left.xs ++ [word] }, 0) := by
            unfold stepS
            rw [if_neg (by rw [hb]; simp), if_neg (by rw [hp]; simp), if_neg (by rw [decide_eq_false (by omega)]; simp)]
            rfl
          (first | refine wX ?_ | exact wZ)
          -- 5: the field, vlV left: the value
          refine LdN.one (a := some ⟨R.rb, 0, none⟩) (q := 5) (vlV left) rfl (fun w hw => hw.2.1) rfl ?_
          (first | refine wX ?_ | exact wZ)
          try refine Nd.mk ⟨Nat.le_refl 1, rfl, rfl⟩ ?_
          (conv => whnf)
          refine AppN.grow 4 (strC left.xs) [.string (bs word)] rfl rfl ⟨Nat.le_refl 1, ⟨by show (left.xs.length + 1) * 16 ≤ _; omega, by show left.xs.length + 1 < _; omega⟩, Nat.one_ne_zero⟩ fun b1 c1 h11 h12 => ?_
          (first | refine wX ?_ | exact wZ)
          have hll2 : (left.xs ++ [word]).length = left.xs.length + 1 := by simp
          refine EffW.appTo (i := 1) (q := 5) (ys := [_]) (rC R l.length W.length (at_ + 1) ⟨left.xs ++ [word], some b1, c1⟩) 6 rfl rfl rfl rfl rfl rfl rfl (Nat.le_of_ble_eq_true rfl) (by
            show [_, _, _, _, _, Value.slice _ (left.xs.length + 1) _] = [_, _, _, _, _, Value.slice _ (left.xs ++ [word]).length _]
            rw [hll2]
            rfl) rfl ?_
          (first | refine wX ?_ | exact wZ)
          -- the same where there is no error; wkE_refl _, wkE_refl _, wkE_refl _, wkE_refl _, .inl ⟨rfl, rfl, strC_snoc _ _, rfl, hll2.symm, rfl⟩, wkE_refl _, wkE_refl _, wkE_refl _, wkE_refl _, wkE_refl _, wkE_refl _, wkE_refl _, wkE_refl _, wkH_nil _: the entries, ({ psOf at_ v g left with at_ := at_ + 1, left := left.xs ++ [word] } : PS): the state, ⟨left.xs ++ [word], some b1, c1⟩: what is left, by rw [hll2]; exact h11: its length
          have hsa1 := step_at (by show at_ < W.length; omega) hst
          have hgr1 := step_grow (l := l) (W := W) (stop := false) (w := word) (s := psOf at_ v g left) (n := at_ * 4001) (fun j => hv j)
          rw [hst] at hgr1
          rw [hst] at he
          have hlc' : (⟨left.xs ++ [word], some b1, c1⟩ : VL).xs.length ≤ (⟨left.xs ++ [word], some b1, c1⟩ : VL).c := by rw [hll2]; exact h11
          have he2 : readS l W false m ({ psOf at_ v g left with at_ := at_ + 1, left := left.xs ++ [word] } : PS) = r := he
          have hps : psOf ({ psOf at_ v g left with at_ := at_ + 1, left := left.xs ++ [word] } : PS).at_ v ({ psOf at_ v g left with at_ := at_ + 1, left := left.xs ++ [word] } : PS).given ⟨left.xs ++ [word], some b1, c1⟩ = ({ psOf at_ v g left with at_ := at_ + 1, left := left.xs ++ [word] } : PS) := ps_eq (r := ({ psOf at_ v g left with at_ := at_ + 1, left := left.xs ++ [word] } : PS)) (v' := v) (left := ⟨left.xs ++ [word], some b1, c1⟩) (fun _ => rfl) (by exact Eq.symm (rfl))
          refine ⟨⟨({ psOf at_ v g left with at_ := at_ + 1, left := left.xs ++ [word] } : PS).at_, v, ({ psOf at_ v g left with at_ := at_ + 1, left := left.xs ++ [word] } : PS).given, ⟨left.xs ++ [word], some b1, c1⟩, m⟩, ⟨hsa1.2.1, by rw [hsa1.2.2.1]; exact hg, fun j => ?_, (by have h9 := hsa1.2.2.2 hll; have h8 : (⟨left.xs ++ [word], some b1, c1⟩ : VL).xs = ({ psOf at_ v g left with at_ := at_ + 1, left := left.xs ++ [word] } : PS).left := rfl; rw [h8]; exact h9), hlc', by have h9 : at_ < ({ psOf at_ v g left with at_ := at_ + 1, left := left.xs ++ [word] } : PS).at_ := hsa1.1; omega, by rw [hps]; exact he2⟩, by have h9 : at_ < ({ psOf at_ v g left with at_ := at_ + 1, left := left.xs ++ [word] } : PS).at_ := hsa1.1; have h8 : ({ psOf at_ v g left with at_ := at_ + 1, left := left.xs ++ [word] } : PS).at_ ≤ W.length := hsa1.2.1; show W.length - ({ psOf at_ v g left with at_ := at_ + 1, left := left.xs ++ [word] } : PS).at_ < W.length - at_; omega, ?_, ⟨wkE_refl _, wkE_refl _, wkE_refl _, wkE_refl _, .inl ⟨rfl, rfl, strC_snoc _ _, rfl, hll2.symm, rfl⟩, wkE_refl _, wkE_refl _, wkE_refl _, wkE_refl _, wkE_refl _, wkE_refl _, wkE_refl _, wkE_refl _, wkH_nil _⟩⟩
          · have h7 := hgr1 j
            have h3 : (v j).xs = ({ psOf at_ v g left with at_ := at_ + 1, left := left.xs ++ [word] } : PS).vals j := (fun _ => rfl) j
            rw [h3]
            have h9 : at_ < ({ psOf at_ v g left with at_ := at_ + 1, left := left.xs ++ [word] } : PS).at_ := hsa1.1
            have h6 : (({ psOf at_ v g left with at_ := at_ + 1, left := left.xs ++ [word] } : PS).vals j).length ≤ at_ * 4001 + (word.length + 1) := h7
            have h5 : (at_ + 1) * 4001 ≤ ({ psOf at_ v g left with at_ := at_ + 1, left := left.xs ++ [word] } : PS).at_ * 4001 := Nat.mul_le_mul_right _ h9
            omega
          · (repeat' (first | exact trivial | refine And.intro (by with_reducible rfl) ?_ | (with_reducible exact wkC_refl _) | (with_reducible exact wkCs_refl _) | refine And.intro ?_ ?_))
            all_goals rfl
  · rw [readS_end (by show W.length ≤ at_; omega)] at he
    obtain rfl := he
    (first | refine wX ?_ | exact wZ)
    exact ⟨(v, left), ⟨fun _ => rfl, rfl, hlc⟩, rfl, wkE_refl _, wkE_refl _, wkE_refl _, wkE_refl _, wkE_refl _, wkE_refl _, wkE_refl _, wkE_refl _, wkE_refl _, wkE_refl _, wkE_refl _, wkE_refl _, wkE_refl _, wkH_nil _⟩
end Go.Proofs.YteljlkkppaobeaaDoor

/-
  AX, forty-third text: rows that are made, of one cell an element.
-/
namespace Go.AX

theorem made_row (z : Value) (n : Nat) : (madeCells #[z] n).toList = List.replicate n z := by
  apply List.ext_getElem?
  intro i
  rw [madeCells, Array.toList_map, List.getElem?_map, Array.toList_range]
  by_cases h : i < n
  · rw [List.getElem?_range h, List.getElem?_replicate, if_pos h]
    simp [Nat.mod_one]
  · rw [List.getElem?_eq_none (by simpa using h), List.getElem?_eq_none (by simpa using h)]
    rfl
/-- make([]T, n) -/
theorem EffW.mkRow {P : Program} {o : Oper} {s : List AV} {H : List Ent} {K : AV → List Ent → Prop} {t e : TypeId} {x y : Operand} {inf : TypeInfo} {z : Value} (n : Nat) (xs : List Value) (ho : o.op = .makeSlice t x y) (ht : P.underlying t = some (.slice e)) (hi : P.info? e = some inf) (hz : inf.zero = some z) (h1 : inf.size = 1) (hc : z.cells = #[z])
    (hx : opv s x = .c (.v (.int .i64 (n : Int)))) (hy : opv s y = .c (.v (.int .i64 (n : Int)))) (hn : n ≤ 1000000 ∧ inf.bytes ≤ 1000) (hxs : List.replicate n z = xs)
    (next : ∀ b, K (.c (.v (.slice (some ⟨b, 0, none⟩) n n))) (H ++ [.app e 1 xs (some ⟨b, 0, none⟩) n n])) : EffW P o s H K := by
  subst hxs
  intro ρ S w a hs hr
  have hxr := opv_rel hr x
  have hyr := opv_rel hr y
  rw [hx] at hxr; rw [hy] at hyr
  have hxe : a.eval x = .int .i64 (n : Int) := hxr
  have hye : a.eval y = .int .i64 (n : Int) := hyr
  have hm2 : inf.bytes * n ≤ 1000 * n := Nat.mul_le_mul_right _ hn.2
  have hrun := run_makeSlice (P := P) (w := w) t e inf z ht hi hz .i64 .i64 (n : Int) (n : Int) (by omega) (Int.le_refl _) (by rw [h1]; omega) (by rw [← Int.natCast_mul]; omega) (by omega)
  simp only [Int.toNat_natCast, h1, Nat.mul_one, hc] at hrun
  have hrow : RowF e 1 n (List.replicate n z) w.heap.size n (w.alloc (.cells (madeCells #[z] n) e)) :=
    ⟨_, (0, 0), ⟨heap_alloc_new w _, .inl rfl⟩, by simp, Nat.le_refl _, by simp only [maxLen]; omega, by rw [size_madeCells, Nat.mul_one], by rw [made_row, Nat.mul_one, List.take_of_length_le (by simp)]⟩
  have hS := hs.newApp (w' := w.alloc (.cells (madeCells #[z] n) e)) rfl rfl rfl rfl hrow
  refine ⟨_, _, next w.heap.size, _, _, _, _, ?_, .inl rfl, hS.1, hS.2, rfl⟩
  unfold execOp
  simp only [ho, hxe, hye, Sem.run_bind, Sem.run_pure, hrun, Result.andThen_ok]
/-- len of a slice, in a drawing region. -/
theorem BlindW.len {P : Program} {o : Oper} {s : List AV} {K : AV → Prop} {x : Operand} {T e : TypeId} {args : Array Operand} {ts : Array TypeId} {p : Option Addr} {n c : Nat} (ho : o.op = .call { callee := .builtin .len, args := args, argTypes := ts }) (ha : args = #[x]) (ht : ts = #[T]) (hu : P.underlying T = some (.slice e))
    (hx : opv s x = .c (.v (.slice p n c))) (hk : K (.c (.v (.int .i64 (n : Int))))) : ∃ x, BlindW P o s K x := by
  subst ha ht
  refine ⟨.int .i64 (n : Int), ?_, fun w => execOp_blt ho fun consts => ?_, hk⟩
  · rw [ho]
    show allPlain s [x] = true
    simp [allPlain, hx]
  · have he : plainEv s x = .slice p n c := by unfold plainEv; rw [hx]
    simp [builtin, Builtin.len_, run_underlying hu, he, goInt]
/-- What the facts on memory say of no memory at all. -/
theorem SpecH.know {P : Program} {f : FuncId} {args : List AV} {H : List Ent} {K : Out → List Ent → Prop} (ok : CallOk P f) (φ : Prop) (hφ : ∀ w, Facts H w → φ) (h : φ → SpecH P f args H K) : SpecH P f args H K :=
  ⟨ok, fun ρ S w vs hs hr => (h (hφ w hs.facts)).run ρ S w vs hs hr⟩
end Go.AX

/-
  Contract: Parse (program).
-/
namespace Go.Proofs.YteljlkkppaobeaaDoor
open Go.AX Go.RowKit Go.Opts
set_option maxRecDepth 20000

def nilV : VL := ⟨[], none, 0⟩
theorem vC_nil (n : Nat) : List.replicate n (.slice none 0 0) = vC n fun _ => nilV := by
  apply List.ext_getElem?
  intro i
  unfold vC
  rw [List.getElem?_map]
  by_cases h : i < n
  · rw [List.getElem?_range h, List.getElem?_replicate, if_pos h]; rfl
  · rw [List.getElem?_eq_none (by simpa using h), List.getElem?_eq_none (by simpa using h)]; rfl
theorem gC_nil (n : Nat) : List.replicate n (.int .i64 0) = gC (List.replicate n 0) := by simp [gC]
def VlF (v : VL) (w : World) : Prop := SlAt (at0 v.a) (v.xs.length * 1) (strC v.xs) w
/-- A result lies there. -/
def ResF (n vb gb : Nat) (v : Nat → VL) (g : List Int) (left : VL) (w : World) : Prop := SlAt (some ⟨vb, 0, none⟩) (n * 1) (vC n v) w ∧ SlAt (some ⟨gb, 0, none⟩) (n * 1) (gC g) w ∧ VlF left w ∧ ∀ j, j < 8 → VlF (v j) w
def resV (n vb gb : Nat) (left : VL) : Value := .agg #[.slice (some ⟨vb, 0, none⟩) n n, .slice (some ⟨gb, 0, none⟩) n n, vlV left]
/-- What Parse answers. -/
def ParseR (n : Nat) (p : PS × Nat × Int) (x : Value) (G : World → Prop) : Prop :=
  (p.2.2 ≠ 0 ∧ x = .tuple #[.agg #[.slice none 0 0, .slice none 0 0, .slice none 0 0], .int .i64 (p.2.1 : Int), .int .i64 p.2.2]) ∨
  (p.2.2 = 0 ∧ ∃ (vb gb : Nat) (v : Nat → VL) (left : VL), x = .tuple #[resV n vb gb left, .int .i64 0, .int .i64 0] ∧ (∀ j, (v j).xs = p.1.vals j) ∧ left.xs = p.1.left ∧ p.1.given.length = n ∧ ∀ w, G w → ResF n vb gb v p.1.given left w)
theorem chk_kinds {l : List Opt} (h : chkB l = true) : ∀ o ∈ l, (0 ≤ o.kind ∧ o.kind ≤ 5) ∧ o.name.length ≤ 1000000000 := by
  intro o ho
  obtain ⟨i, hi⟩ := List.getElem?_of_mem ho
  unfold chkB at h
  rw [Bool.and_eq_true] at h
  have h1 := List.all_eq_true.1 h.2 i (List.mem_range.2 (List.getElem?_eq_some_iff.1 hi).1)
  rw [hi] at h1
  simp only [Bool.and_eq_true, okB, decide_eq_true_eq] at h1
  exact ⟨⟨h1.1.1.1.2, h1.1.1.2⟩, Nat.le_trans h1.1.1.1.1.1.1.1.1.1.2 (by decide)⟩
theorem finS_drop (g : List Int) (l : List Opt) (i : Nat) {o : Opt} (h : l[i]? = some o) (v : Nat → List (List UInt8)) : finS g i (l.drop i) v = if 0 < g.getD i 0 then finS g (i + 1) (l.drop (i + 1)) v else if o.must then (v, some i) else if o.dflt != [] then finS g (i + 1) (l.drop (i + 1)) (upd v i [o.dflt]) else finS g (i + 1) (l.drop (i + 1)) v := by
  obtain ⟨hlt, hx⟩ := List.getElem?_eq_some_iff.1 h
  rw [List.drop_eq_getElem_cons hlt, hx]
  rfl
theorem read_given (l : List Opt) (W : List (List UInt8)) : ∀ (n : Nat) (s : PS), (readS l W false n s).1.given.length = s.given.length
  | 0, s => rfl
  | n + 1, s => by
    unfold readS
    cases hw : W[s.at_]? with
    | none => rfl
    | some w =>
      simp only
      have h := (step_at (l := l) (W := W) (stop := false) (w := w) (s := s) (s' := (stepS l W false w s).1) (e := (stepS l W false w s).2) (List.getElem?_eq_some_iff.1 hw).1 rfl).2.2.1
      generalize stepS l W false w s = q at *
      obtain ⟨s1, e⟩ := q
      simp only at h ⊢
      split
      · rw [read_given l W n s1, h]
      · exact h
set_option maxHeartbeats 4000000 in
theorem Parse_c (ab : Option Nat) (cap : Nat) (l : List Opt) (wa : Option Addr) (wc : Nat) (W : List (List UInt8)) (ha : ab = none → l = []) (hcap : l.length ≤ cap) (hn8 : l.length ≤ 8) (hn : ∀ o ∈ l, o.name.length ≤ 1000000000) (hwa : wa = none → W = []) (hwc : W.length ≤ wc) (hWl : ∀ w ∈ W, w.length ≤ 4000) :
    SpecF Tryd.prog 11 [.slice (at0 ab) l.length cap, .slice wa W.length wc, .bool false] (RdF ⟨0, at0 ab, cap, wa, wc, 0, 0⟩ l W) (ParseR l.length (parseS l W false)) := by
  refine specF hm Tryd.func11 (by kernel_rfl) rfl rfl ?_
  generalize hp : parseS l W false = p
  (first | refine wX ?_ | exact wZ)
  refine call1 (Check_c ab cap l ha hcap (Nat.le_trans hn8 (by decide)) hn _ (fun w hw => hw.1.1)) ?_
  cases hck : chkB l with
  | false =>
    obtain rfl : (initS l, 0, 1) = p := by rw [← hp]; unfold parseS; rw [hck]; rfl
    (first | refine wX ?_ | exact wZ)
    exact fin_v (.inl ⟨show (1 : Int) ≠ 0 by decide, rfl⟩)
  | true =>
    (first | refine wX ?_ | exact wZ)
    refine brd_dec (fun h2 => ?_) (fun h2 => ?_)
    · obtain rfl : (initS l, 0, 1) = p := by rw [← hp]; unfold parseS; rw [hck, show decide (200 < W.length) = true by simp; omega]; rfl
      (first | refine wX ?_ | exact wZ)
      exact fin_v (.inl ⟨show (1 : Int) ≠ 0 by decide, rfl⟩)
    have hpe : p = match readS l W false (W.length + 1) (psOf 0 (fun _ => nilV) (List.replicate l.length 0) nilV) with
      | (s, a, e) => if e ≠ 0 then (s, a, e) else match finS s.given 0 l s.vals with
        | (_, some i) => (s, i, 3)
        | (v, none) => ({ s with vals := v }, 0, 0) := by
      rw [← hp]; unfold parseS; rw [hck, show decide (200 < W.length) = false by simp; omega]; rfl
    have hgl := read_given l W (W.length + 1) (psOf 0 (fun _ => nilV) (List.replicate l.length 0) nilV)
    ((conv => whnf); (repeat ((first | refine RwN.own ?_ | refine VrN.norm (wrap_i64 (by omega)) ?_ | refine VrN.keep ?_ | refine DrawN.calm (by decide +kernel) ?_ | refine Nd.mk (by decide +kernel) ?_ | refine Nd.mk (by omega) ?_ | (refine Nd.mk ?_ ?_; focus ((repeat' (first | exact trivial | exact wkE_refl _ | refine And.intro ?_ ?_)); done)) | refine RdN.intro _ rfl (by rfl) ?_); (conv => whnf))))
    refine DrawN.tree [0, 1, 2, 5, 3, 6] (.cons 4 (.cons 7 (.cons 8 (.cons 9 (.cons 10 (.cons 11 .nil .nil) .nil) .nil) .nil) .nil) (.cons 7 (.cons 4 (.cons 8 (.cons 9 (.cons 10 (.cons 11 .nil .nil) .nil) .nil) .nil) .nil) .nil)) 6 (by decide +kernel) ?_
    ((conv => whnf); (repeat ((first | refine RwN.own ?_ | refine VrN.norm (wrap_i64 (by omega)) ?_ | refine VrN.keep ?_ | refine DrawN.calm (by decide +kernel) ?_ | refine Nd.mk (by decide +kernel) ?_ | refine Nd.mk (by omega) ?_ | (refine Nd.mk ?_ ?_; focus ((repeat' (first | exact trivial | exact wkE_refl _ | refine And.intro ?_ ?_)); done)) | refine RdN.intro _ rfl (by rfl) ?_); (conv => whnf))))
    refine BlindW.len rfl rfl rfl Tryd.underlying22 rfl ?_
    ((conv => whnf); (repeat ((first | refine RwN.own ?_ | refine VrN.norm (wrap_i64 (by omega)) ?_ | refine VrN.keep ?_ | refine DrawN.calm (by decide +kernel) ?_ | refine Nd.mk (by decide +kernel) ?_ | refine Nd.mk (by omega) ?_ | (refine Nd.mk ?_ ?_; focus ((repeat' (first | exact trivial | exact wkE_refl _ | refine And.intro ?_ ?_)); done)) | refine RdN.intro _ rfl (by rfl) ?_); (conv => whnf))))
    refine BlindW.len rfl rfl rfl Tryd.underlying22 rfl ?_
    ((conv => whnf); (repeat ((first | refine RwN.own ?_ | refine VrN.norm (wrap_i64 (by omega)) ?_ | refine VrN.keep ?_ | refine DrawN.calm (by decide +kernel) ?_ | refine Nd.mk (by decide +kernel) ?_ | refine Nd.mk (by omega) ?_ | (refine Nd.mk ?_ ?_; focus ((repeat' (first | exact trivial | exact wkE_refl _ | refine And.intro ?_ ?_)); done)) | refine RdN.intro _ rfl (by rfl) ?_); (conv => whnf))))
    refine ⟨?_, ?_⟩
    · ((conv => whnf); (repeat ((first | refine RwN.own ?_ | refine VrN.norm (wrap_i64 (by omega)) ?_ | refine VrN.keep ?_ | refine DrawN.calm (by decide +kernel) ?_ | refine Nd.mk (by decide +kernel) ?_ | refine Nd.mk (by omega) ?_ | (refine Nd.mk ?_ ?_; focus ((repeat' (first | exact trivial | exact wkE_refl _ | refine And.intro ?_ ?_)); done)) | refine RdN.intro _ rfl (by rfl) ?_); (conv => whnf))))
      refine EffW.mkRow (e := 23) (z := .slice none 0 0) l.length (vC l.length fun _ => nilV) rfl (by kernel_rfl) rfl rfl rfl rfl rfl rfl ⟨by omega, by decide⟩ (vC_nil _) fun vb => ?_
      ((conv => whnf); (repeat ((first | refine RwN.own ?_ | refine VrN.norm (wrap_i64 (by omega)) ?_ | refine VrN.keep ?_ | refine DrawN.calm (by decide +kernel) ?_ | refine Nd.mk (by decide +kernel) ?_ | refine Nd.mk (by omega) ?_ | (refine Nd.mk ?_ ?_; focus ((repeat' (first | exact trivial | exact wkE_refl _ | refine And.intro ?_ ?_)); done)) | refine RdN.intro _ rfl (by rfl) ?_); (conv => whnf))))
      refine EffW.mkRow (e := 3) (z := .int .i64 0) l.length (gC (List.replicate l.length 0)) rfl (by kernel_rfl) rfl rfl rfl rfl rfl rfl ⟨by omega, by decide⟩ (gC_nil _) fun gb => ?_
      -- 2, 3: the places of the two rows
      ((conv => whnf); (repeat ((first | refine RwN.own ?_ | refine VrN.norm (wrap_i64 (by omega)) ?_ | refine VrN.keep ?_ | refine DrawN.calm (by decide +kernel) ?_ | refine Nd.mk (by decide +kernel) ?_ | refine Nd.mk (by omega) ?_ | (refine Nd.mk ?_ ?_; focus ((repeat' (first | exact trivial | exact wkE_refl _ | refine And.intro ?_ ?_)); done)) | refine RdN.intro _ rfl (by rfl) ?_); (conv => whnf))))
      refine BoxN.known _ rfl fun rb => ?_
      ((conv => whnf); (repeat ((first | refine RwN.own ?_ | refine VrN.norm (wrap_i64 (by omega)) ?_ | refine VrN.keep ?_ | refine DrawN.calm (by decide +kernel) ?_ | refine Nd.mk (by decide +kernel) ?_ | refine Nd.mk (by omega) ?_ | (refine Nd.mk ?_ ?_; focus ((repeat' (first | exact trivial | exact wkE_refl _ | refine And.intro ?_ ?_)); done)) | refine RdN.intro _ rfl (by rfl) ?_); (conv => whnf))))
      refine SpecH.pad [vlE nilV, vlE nilV, vlE nilV, vlE nilV, vlE nilV, vlE nilV, vlE nilV, vlE nilV, vlE nilV] rfl ?_
      have ok : RdOk ⟨rb, at0 ab, cap, wa, wc, vb, gb⟩ l W := ⟨fun o ho => (chk_kinds hck o ho).1, hn, hn8, by omega, hwa, fun h => ha (by cases ab with | none => rfl | some b => cases h)⟩
      refine callG (read_c ⟨rb, at0 ab, cap, wa, wc, vb, gb⟩ l W 0 (fun _ => nilV) (List.replicate l.length 0) nilV (W.length + 1) ok (by omega) hwc hWl (by simp) (Nat.zero_le _) (fun _ => Nat.zero_le _) (Nat.le_refl _) (Nat.le_refl _) (by omega)) [0, 4, 2, 3, 5, 6, 7, 8, 9, 10, 11, 12, 13] rfl ⟨rfl, rfl, rfl, rfl, rfl, rfl, rfl, rfl, rfl, rfl, rfl, rfl, rfl, trivial⟩ rfl fun ⟨v, left⟩ ⟨hv, hln, hlc⟩ => ?_
      generalize readS l W false (W.length + 1) (psOf 0 (fun _ => nilV) (List.replicate l.length 0) nilV) = r at *
      obtain ⟨s1, at1, e1⟩ := r
      (first | refine wX ?_ | exact wZ)
      refine brd_ne (fun h4 => ?_) (fun h4 => ?_)
      · obtain rfl : p = (s1, at1, e1) := by rw [hpe]; exact if_pos h4
        (first | refine wX ?_ | exact wZ)
        exact fin_v (.inl ⟨h4, rfl⟩)
      obtain rfl : e1 = 0 := h4
      have hpe2 : p = match finS s1.given 0 l s1.vals with
        | (_, some i) => (s1, i, 3)
        | (v, none) => ({ s1 with vals := v }, 0, 0) := by
        rw [hpe]
        exact if_neg (fun h => h rfl)
      have hgl2 : s1.given.length = l.length := by
        have h := hgl
        simp [psOf] at h
        exact h
      (first | refine wX ?_ | exact wZ)
      refine LoopN.intro (Nat × (Nat → VL)) (fun ⟨i, v⟩ => i ≤ l.length ∧ finS s1.given i (l.drop i) (fun j => (v j).xs) = finS s1.given 0 l s1.vals)
        (fun ⟨i, _⟩ => mkS Tryd.f11.ntmps 0 [(0, .c (.v (.slice (at0 ab) l.length cap))), (6, .c (.lp 1 0)), (7, .c (.v (.int .i64 0))), (8, .c (.v (.int .i64 0))), (9, .c (.v (.pointer (some ⟨rb, 0, none⟩)))), (45, .c (.v (.slice (at0 ab) l.length cap))), (46, .c (.v (.int .i64 (l.length : Int)))), (47, .c (.v (.int .i64 (i : Int))))])
        (fun ⟨_, v⟩ => [.fact (RdF ⟨0, at0 ab, cap, wa, wc, 0, 0⟩ l W), .blk 35 [.v (.slice none 0 0), .v (.slice none 0 0), .v (.slice none 0 0)], vE ⟨rb, at0 ab, cap, wa, wc, vb, gb⟩ l.length v, gE ⟨rb, at0 ab, cap, wa, wc, vb, gb⟩ l.length s1.given, rE ⟨rb, at0 ab, cap, wa, wc, vb, gb⟩ l.length W.length s1.at_ left, vlE left, vlE (v 0), vlE (v 1), vlE (v 2), vlE (v 3), vlE (v 4), vlE (v 5), vlE (v 6), vlE (v 7)]) (fun ⟨i, _⟩ => l.length - i) [] rfl (fun _ => rfl) (fun _ => rfl) (fun _ _ => okHB_eq rfl)
        ⟨⟨0, v⟩, ⟨Nat.zero_le _, by rw [show (fun j => (v j).xs) = s1.vals from funext hv]; rfl⟩, ?_, ⟨wkE_refl _, wkE_refl _, wkE_refl _, wkE_refl _, wkE_refl _, wkE_refl _, wkE_refl _, wkE_refl _, wkE_refl _, wkE_refl _, wkE_refl _, wkE_refl _, wkE_refl _, wkE_refl _, wkH_nil _⟩⟩ ?_
      · (repeat' (first | exact trivial | refine And.intro (by with_reducible rfl) ?_ | (with_reducible exact wkC_refl _) | (with_reducible exact wkCs_refl _) | refine And.intro ?_ ?_))
        all_goals rfl
      clear hv
      rintro ⟨i, v⟩ ⟨hi, he⟩
      (first | refine wX ?_ | exact wZ)
      refine brd_dec (fun h1 => ?_) (fun h1 => ?_)
      · obtain ⟨o, ho⟩ : ∃ o, l[i]? = some o := ⟨_, List.getElem?_eq_getElem (by omega)⟩
        have hil : i < l.length := by omega
        have hsa : (at0 ab).isSome = true := by
          cases ab with
          | none => rw [ha rfl] at ho; cases ho
          | some b => rfl
        have hgi := gC_get (g := s1.given) (i := i) (by omega)
        rw [finS_drop s1.given l i ho] at he
        (first | refine wX ?_ | exact wZ)
        refine Nd.mk ⟨hsa, by omega, by omega⟩ ?_
        (first | refine wX ?_ | exact wZ)
        refine LdN.agg (optC o) rfl (fun w hw => hw.1.1) rfl (fun j hj => by
          rw [Int.toNat_natCast]
          exact optsC_get l i j hj ho) ?_
        (first | refine wX ?_ | exact wZ)
        refine LdN.one (a := some ⟨rb, 0, none⟩) (q := 4) (.slice (some ⟨gb, 0, none⟩) l.length l.length) rfl (fun w hw => hw.2.2.2.1) rfl ?_
        (first | refine wX ?_ | exact wZ)
        refine Nd.mk ⟨rfl, by omega, by omega⟩ ?_
        (first | refine wX ?_ | exact wZ)
        refine LdN.one (.int .i64 (s1.given.getD i 0)) rfl (fun w hw => hw.2.2.1) (by rw [Int.toNat_natCast]; show (gC s1.given)[i * 1]? = _; rw [Nat.mul_one]; exact hgi) ?_
        (first | refine wX ?_ | exact wZ)
        refine brd_dec (fun h5 => ?_) (fun h5 => ?_)
        · rw [if_pos h5] at he
          (first | refine wX ?_ | exact wZ)
          refine ⟨⟨i + 1, v⟩, ⟨by omega, he⟩, by show l.length - (i + 1) < l.length - i; omega, ?_, ⟨wkE_refl _, wkE_refl _, wkE_refl _, wkE_refl _, wkE_refl _, wkE_refl _, wkE_refl _, wkE_refl _, wkE_refl _, wkE_refl _, wkE_refl _, wkE_refl _, wkE_refl _, wkE_refl _, wkH_nil _⟩⟩
          (repeat' (first | exact trivial | refine And.intro (by with_reducible rfl) ?_ | (with_reducible exact wkC_refl _) | (with_reducible exact wkCs_refl _) | refine And.intro ?_ ?_))
          all_goals first | rfl | exact av_int (by rw [wrap_i64 (by omega)]; omega)
        rw [if_neg h5] at he
        (first | refine wX ?_ | exact wZ)
        cases hm : o.must with
        | true =>
          rw [hm, if_pos rfl] at he
          obtain rfl : p = (s1, i, 3) := by rw [hpe2, ← he]
          (first | refine wX ?_ | exact wZ)
          exact fin_v (.inl ⟨show (3 : Int) ≠ 0 by decide, rfl⟩)
        | false =>
          rw [hm, if_neg (by simp)] at he
          (first | refine wX ?_ | exact wZ)
          rw [show ((bs o.dflt).data.toList == (⟨#[]⟩ : ByteArray).data.toList) = (o.dflt == []) by rw [bs_list]]
          cases hd : o.dflt == [] with
          | true =>
            rw [if_neg (by rw [bne, hd]; simp)] at he
            (first | refine wX ?_ | exact wZ)
            refine ⟨⟨i + 1, v⟩, ⟨by omega, he⟩, by show l.length - (i + 1) < l.length - i; omega, ?_, ⟨wkE_refl _, wkE_refl _, wkE_refl _, wkE_refl _, wkE_refl _, wkE_refl _, wkE_refl _, wkE_refl _, wkE_refl _, wkE_refl _, wkE_refl _, wkE_refl _, wkE_refl _, wkE_refl _, wkH_nil _⟩⟩
            (repeat' (first | exact trivial | refine And.intro (by with_reducible rfl) ?_ | (with_reducible exact wkC_refl _) | (with_reducible exact wkCs_refl _) | refine And.intro ?_ ?_))
            all_goals first | rfl | exact av_int (by rw [wrap_i64 (by omega)]; omega)
          | false =>
            rw [if_pos (by rw [bne, hd]; rfl)] at he
            ((conv => whnf); (repeat ((first | refine BoxN.own ?_ | refine VrN.norm (wrap_i64 (by omega)) ?_ | refine VrN.keep ?_ | refine DrawN.calm (by decide +kernel) ?_ | refine Nd.mk (by decide +kernel) ?_ | refine Nd.mk (by omega) ?_ | (refine Nd.mk ?_ ?_; focus ((repeat' (first | exact trivial | exact wkE_refl _ | refine And.intro ?_ ?_)); done)) | refine RdN.intro _ rfl (by rfl) ?_); (conv => whnf))))
            refine DrawN.plan [0, 5, 6] [(1, 1), (2, 1), (3, 1), (4, 1), (7, 1), (8, 0), (9, 1)] [(10, 0)] (by decide +kernel) ?_
            ((conv => whnf); (repeat ((first | refine BoxN.own ?_ | refine VrN.norm (wrap_i64 (by omega)) ?_ | refine VrN.keep ?_ | refine DrawN.calm (by decide +kernel) ?_ | refine Nd.mk (by decide +kernel) ?_ | refine Nd.mk (by omega) ?_ | (refine Nd.mk ?_ ?_; focus ((repeat' (first | exact trivial | exact wkE_refl _ | refine And.intro ?_ ?_)); done)) | refine RdN.intro _ rfl (by rfl) ?_); (conv => whnf))))
            refine LdN.one (a := some ⟨rb, 0, none⟩) (q := 3) (.slice (some ⟨vb, 0, none⟩) l.length l.length) rfl (fun w hw => hw.2.2.2.1) rfl ?_
            ((conv => whnf); (repeat ((first | refine BoxN.own ?_ | refine VrN.norm (wrap_i64 (by omega)) ?_ | refine VrN.keep ?_ | refine DrawN.calm (by decide +kernel) ?_ | refine Nd.mk (by decide +kernel) ?_ | refine Nd.mk (by omega) ?_ | (refine Nd.mk ?_ ?_; focus ((repeat' (first | exact trivial | exact wkE_refl _ | refine And.intro ?_ ?_)); done)) | refine RdN.intro _ rfl (by rfl) ?_); (conv => whnf))))
            refine RwN.known [_] rfl fun nb => ?_
            ((conv => whnf); (repeat ((first | refine BoxN.own ?_ | refine VrN.norm (wrap_i64 (by omega)) ?_ | refine VrN.keep ?_ | refine DrawN.calm (by decide +kernel) ?_ | refine Nd.mk (by decide +kernel) ?_ | refine Nd.mk (by omega) ?_ | (refine Nd.mk ?_ ?_; focus ((repeat' (first | exact trivial | exact wkE_refl _ | refine And.intro ?_ ?_)); done)) | refine RdN.intro _ rfl (by rfl) ?_); (conv => whnf))))
            try refine Nd.mk ⟨rfl, by omega, by omega⟩ ?_
            ((conv => whnf); (repeat ((first | refine BoxN.own ?_ | refine VrN.norm (wrap_i64 (by omega)) ?_ | refine VrN.keep ?_ | refine DrawN.calm (by decide +kernel) ?_ | refine Nd.mk (by decide +kernel) ?_ | refine Nd.mk (by omega) ?_ | (refine Nd.mk ?_ ?_; focus ((repeat' (first | exact trivial | exact wkE_refl _ | refine And.intro ?_ ?_)); done)) | refine RdN.intro _ rfl (by rfl) ?_); (conv => whnf))))
            have hi8 : i < 8 := by omega
            have he2 : finS s1.given (i + 1) (l.drop (i + 1)) (fun j => (upd v i ⟨[o.dflt], some nb, 1⟩ j).xs) = finS s1.given 0 l s1.vals := by
              rw [show (fun j => (upd v i ⟨[o.dflt], some nb, 1⟩ j).xs) = upd (fun j => (v j).xs) i [o.dflt] from funext fun j => upd_xs v i _ j]
              exact he
            clear he hgi ho
            rcases i with _ | _ | _ | _ | _ | _ | _ | _ | i
            · -- 0: which one, 6: its entry, 2: that of the row
              refine EffW.swp 6 15 rfl rfl rfl ?_
              refine EffW.appTo (i := 2) (q := 0) (ys := [vlV ⟨[o.dflt], some nb, 1⟩]) (vC l.length (upd v 0 ⟨[o.dflt], some nb, 1⟩)) 1 rfl rfl rfl rfl rfl rfl rfl (by show 0 + 1 ≤ l.length * 1; omega) (vC_set v _ hil) rfl ?_
              (first | refine wX ?_ | exact wZ)
              refine ⟨⟨0 + 1, upd v 0 ⟨[o.dflt], some nb, 1⟩⟩, ⟨by omega, he2⟩, by show l.length - (0 + 1) < l.length - 0; omega, ?_, ⟨wkE_refl _, wkE_refl _, wkE_refl _, wkE_refl _, wkE_refl _, wkE_refl _, wkE_refl _, wkE_refl _, wkE_refl _, wkE_refl _, wkE_refl _, wkE_refl _, wkE_refl _, wkE_refl _, wkH_nil _⟩⟩
              (repeat' (first | exact trivial | refine And.intro (by with_reducible rfl) ?_ | (with_reducible exact wkC_refl _) | (with_reducible exact wkCs_refl _) | refine And.intro ?_ ?_))
              all_goals first | rfl | exact av_int (by rw [wrap_i64 (by omega)]; omega)
            · -- 1: which one, 7: its entry, 2: that of the row
              refine EffW.swp 7 15 rfl rfl rfl ?_
              refine EffW.appTo (i := 2) (q := 1) (ys := [vlV ⟨[o.dflt], some nb, 1⟩]) (vC l.length (upd v 1 ⟨[o.dflt], some nb, 1⟩)) 1 rfl rfl rfl rfl rfl rfl rfl (by show 1 + 1 ≤ l.length * 1; omega) (vC_set v _ hil) rfl ?_
              (first | refine wX ?_ | exact wZ)
              refine ⟨⟨1 + 1, upd v 1 ⟨[o.dflt], some nb, 1⟩⟩, ⟨by omega, he2⟩, by show l.length - (1 + 1) < l.length - 1; omega, ?_, ⟨wkE_refl _, wkE_refl _, wkE_refl _, wkE_refl _, wkE_refl _, wkE_refl _, wkE_refl _, wkE_refl _, wkE_refl _, wkE_refl _, wkE_refl _, wkE_refl _, wkE_refl _, wkE_refl _, wkH_nil _⟩⟩
              (repeat' (first | exact trivial | refine And.intro (by with_reducible rfl) ?_ | (with_reducible exact wkC_refl _) | (with_reducible exact wkCs_refl _) | refine And.intro ?_ ?_))
              all_goals first | rfl | exact av_int (by rw [wrap_i64 (by omega)]; omega)
            · -- 2: which one, 8: its entry, 2: that of the row
              refine EffW.swp 8 15 rfl rfl rfl ?_
              refine EffW.appTo (i := 2) (q := 2) (ys := [vlV ⟨[o.dflt], some nb, 1⟩]) (vC l.length (upd v 2 ⟨[o.dflt], some nb, 1⟩)) 1 rfl rfl rfl rfl rfl rfl rfl (by show 2 + 1 ≤ l.length * 1; omega) (vC_set v _ hil) rfl ?_
              (first | refine wX ?_ | exact wZ)
              refine ⟨⟨2 + 1, upd v 2 ⟨[o.dflt], some nb, 1⟩⟩, ⟨by omega, he2⟩, by show l.length - (2 + 1) < l.length - 2; omega, ?_, ⟨wkE_refl _, wkE_refl _, wkE_refl _, wkE_refl _, wkE_refl _, wkE_refl _, wkE_refl _, wkE_refl _, wkE_refl _, wkE_refl _, wkE_refl _, wkE_refl _, wkE_refl _, wkE_refl _, wkH_nil _⟩⟩
              (repeat' (first | exact trivial | refine And.intro (by with_reducible rfl) ?_ | (with_reducible exact wkC_refl _) | (with_reducible exact wkCs_refl _) | refine And.intro ?_ ?_))
              all_goals first | rfl | exact av_int (by rw [wrap_i64 (by omega)]; omega)
            · -- 3: which one, 9: its entry, 2: that of the row
              refine EffW.swp 9 15 rfl rfl rfl ?_
              refine EffW.appTo (i := 2) (q := 3) (ys := [vlV ⟨[o.dflt], some nb, 1⟩]) (vC l.length (upd v 3 ⟨[o.dflt], some nb, 1⟩)) 1 rfl rfl rfl rfl rfl rfl rfl (by show 3 + 1 ≤ l.length * 1; omega) (vC_set v _ hil) rfl ?_
              (first | refine wX ?_ | exact wZ)
              refine ⟨⟨3 + 1, upd v 3 ⟨[o.dflt], some nb, 1⟩⟩, ⟨by omega, he2⟩, by show l.length - (3 + 1) < l.length - 3; omega, ?_, ⟨wkE_refl _, wkE_refl _, wkE_refl _, wkE_refl _, wkE_refl _, wkE_refl _, wkE_refl _, wkE_refl _, wkE_refl _, wkE_refl _, wkE_refl _, wkE_refl _, wkE_refl _, wkE_refl _, wkH_nil _⟩⟩
              (repeat' (first | exact trivial | refine And.intro (by with_reducible rfl) ?_ | (with_reducible exact wkC_refl _) | (with_reducible exact wkCs_refl _) | refine And.intro ?_ ?_))
              all_goals first | rfl | exact av_int (by rw [wrap_i64 (by omega)]; omega)
            · -- 4: which one, 10: its entry, 2: that of the row
              refine EffW.swp 10 15 rfl rfl rfl ?_
              refine EffW.appTo (i := 2) (q := 4) (ys := [vlV ⟨[o.dflt], some nb, 1⟩]) (vC l.length (upd v 4 ⟨[o.dflt], some nb, 1⟩)) 1 rfl rfl rfl rfl rfl rfl rfl (by show 4 + 1 ≤ l.length * 1; omega) (vC_set v _ hil) rfl ?_
              (first | refine wX ?_ | exact wZ)
              refine ⟨⟨4 + 1, upd v 4 ⟨[o.dflt], some nb, 1⟩⟩, ⟨by omega, he2⟩, by show l.length - (4 + 1) < l.length - 4; omega, ?_, ⟨wkE_refl _, wkE_refl _, wkE_refl _, wkE_refl _, wkE_refl _, wkE_refl _, wkE_refl _, wkE_refl _, wkE_refl _, wkE_refl _, wkE_refl _, wkE_refl _, wkE_refl _, wkE_refl _, wkH_nil _⟩⟩
              (repeat' (first | exact trivial | refine And.intro (by with_reducible rfl) ?_ | (with_reducible exact wkC_refl _) | (with_reducible exact wkCs_refl _) | refine And.intro ?_ ?_))
              all_goals first | rfl | exact av_int (by rw [wrap_i64 (by omega)]; omega)
            · -- 5: which one, 11: its entry, 2: that of the row
              refine EffW.swp 11 15 rfl rfl rfl ?_
              refine EffW.appTo (i := 2) (q := 5) (ys := [vlV ⟨[o.dflt], some nb, 1⟩]) (vC l.length (upd v 5 ⟨[o.dflt], some nb, 1⟩)) 1 rfl rfl rfl rfl rfl rfl rfl (by show 5 + 1 ≤ l.length * 1; omega) (vC_set v _ hil) rfl ?_
              (first | refine wX ?_ | exact wZ)
              refine ⟨⟨5 + 1, upd v 5 ⟨[o.dflt], some nb, 1⟩⟩, ⟨by omega, he2⟩, by show l.length - (5 + 1) < l.length - 5; omega, ?_, ⟨wkE_refl _, wkE_refl _, wkE_refl _, wkE_refl _, wkE_refl _, wkE_refl _, wkE_refl _, wkE_refl _, wkE_refl _, wkE_refl _, wkE_refl _, wkE_refl _, wkE_refl _, wkE_refl _, wkH_nil _⟩⟩
              (repeat' (first | exact trivial | refine And.intro (by with_reducible rfl) ?_ | (with_reducible exact wkC_refl _) | (with_reducible exact wkCs_refl _) | refine And.intro ?_ ?_))
              all_goals first | rfl | exact av_int (by rw [wrap_i64 (by omega)]; omega)
            · -- 6: which one, 12: its entry, 2: that of the row
              refine EffW.swp 12 15 rfl rfl rfl ?_
              refine EffW.appTo (i := 2) (q := 6) (ys := [vlV ⟨[o.dflt], some nb, 1⟩]) (vC l.length (upd v 6 ⟨[o.dflt], some nb, 1⟩)) 1 rfl rfl rfl rfl rfl rfl rfl (by show 6 + 1 ≤ l.length * 1; omega) (vC_set v _ hil) rfl ?_
              (first | refine wX ?_ | exact wZ)
              refine ⟨⟨6 + 1, upd v 6 ⟨[o.dflt], some nb, 1⟩⟩, ⟨by omega, he2⟩, by show l.length - (6 + 1) < l.length - 6; omega, ?_, ⟨wkE_refl _, wkE_refl _, wkE_refl _, wkE_refl _, wkE_refl _, wkE_refl _, wkE_refl _, wkE_refl _, wkE_refl _, wkE_refl _, wkE_refl _, wkE_refl _, wkE_refl _, wkE_refl _, wkH_nil _⟩⟩
              (repeat' (first | exact trivial | refine And.intro (by with_reducible rfl) ?_ | (with_reducible exact wkC_refl _) | (with_reducible exact wkCs_refl _) | refine And.intro ?_ ?_))
              all_goals first | rfl | exact av_int (by rw [wrap_i64 (by omega)]; omega)
            · -- 7: which one, 13: its entry, 2: that of the row
              refine EffW.swp 13 15 rfl rfl rfl ?_
              refine EffW.appTo (i := 2) (q := 7) (ys := [vlV ⟨[o.dflt], some nb, 1⟩]) (vC l.length (upd v 7 ⟨[o.dflt], some nb, 1⟩)) 1 rfl rfl rfl rfl rfl rfl rfl (by show 7 + 1 ≤ l.length * 1; omega) (vC_set v _ hil) rfl ?_
              (first | refine wX ?_ | exact wZ)
              refine ⟨⟨7 + 1, upd v 7 ⟨[o.dflt], some nb, 1⟩⟩, ⟨by omega, he2⟩, by show l.length - (7 + 1) < l.length - 7; omega, ?_, ⟨wkE_refl _, wkE_refl _, wkE_refl _, wkE_refl _, wkE_refl _, wkE_refl _, wkE_refl _, wkE_refl _, wkE_refl _, wkE_refl _, wkE_refl _, wkE_refl _, wkE_refl _, wkE_refl _, wkH_nil _⟩⟩
              (repeat' (first | exact trivial | refine And.intro (by with_reducible rfl) ?_ | (with_reducible exact wkC_refl _) | (with_reducible exact wkCs_refl _) | refine And.intro ?_ ?_))
              all_goals first | rfl | exact av_int (by rw [wrap_i64 (by omega)]; omega)
            · omega
      · have hin : i = l.length := by omega
        subst hin
        rw [List.drop_of_length_le (Nat.le_refl _)] at he
        obtain rfl : p = ({ s1 with vals := fun j => (v j).xs }, 0, 0) := by rw [hpe2, ← he]; rfl
        (first | refine wX ?_ | exact wZ)
        refine LdN.agg (a := some ⟨rb, 0, none⟩) (q := 3) [.slice (some ⟨vb, 0, none⟩) l.length l.length, .slice (some ⟨gb, 0, none⟩) l.length l.length, vlV left] rfl (fun w hw => hw.2.2.2.1) rfl (fun j hj => by
          have hj3 : j < 3 := hj
          clear hj
          rcases j with _ | _ | _ | j <;> first | rfl | omega) ?_
        (first | refine wX ?_ | exact wZ)
        refine fin_p (ResF l.length vb gb v s1.given left) (.inr ⟨rfl, vb, gb, v, left, rfl, fun _ => rfl, hln, hgl2, fun w hw => hw⟩) fun w hw => ⟨hw.2.1, hw.2.2.1, hw.2.2.2.2.1, fun j hj => ?_⟩
        rcases j with _ | _ | _ | _ | _ | _ | _ | _ | j
        · exact hw.2.2.2.2.2.1
        · exact hw.2.2.2.2.2.2.1
        · exact hw.2.2.2.2.2.2.2.1
        · exact hw.2.2.2.2.2.2.2.2.1
        · exact hw.2.2.2.2.2.2.2.2.2.1
        · exact hw.2.2.2.2.2.2.2.2.2.2.1
        · exact hw.2.2.2.2.2.2.2.2.2.2.2.1
        · exact hw.2.2.2.2.2.2.2.2.2.2.2.2.1
        · omega
    · ((conv => whnf); (repeat ((first | refine RwN.own ?_ | refine VrN.norm (wrap_i64 (by omega)) ?_ | refine VrN.keep ?_ | refine DrawN.calm (by decide +kernel) ?_ | refine Nd.mk (by decide +kernel) ?_ | refine Nd.mk (by omega) ?_ | (refine Nd.mk ?_ ?_; focus ((repeat' (first | exact trivial | exact wkE_refl _ | refine And.intro ?_ ?_)); done)) | refine RdN.intro _ rfl (by rfl) ?_); (conv => whnf))))
      refine EffW.mkRow (e := 3) (z := .int .i64 0) l.length (gC (List.replicate l.length 0)) rfl (by kernel_rfl) rfl rfl rfl rfl rfl rfl ⟨by omega, by decide⟩ (gC_nil _) fun gb => ?_
      ((conv => whnf); (repeat ((first | refine RwN.own ?_ | refine VrN.norm (wrap_i64 (by omega)) ?_ | refine VrN.keep ?_ | refine DrawN.calm (by decide +kernel) ?_ | refine Nd.mk (by decide +kernel) ?_ | refine Nd.mk (by omega) ?_ | (refine Nd.mk ?_ ?_; focus ((repeat' (first | exact trivial | exact wkE_refl _ | refine And.intro ?_ ?_)); done)) | refine RdN.intro _ rfl (by rfl) ?_); (conv => whnf))))
      refine EffW.mkRow (e := 23) (z := .slice none 0 0) l.length (vC l.length fun _ => nilV) rfl (by kernel_rfl) rfl rfl rfl rfl rfl rfl ⟨by omega, by decide⟩ (vC_nil _) fun vb => ?_
      -- 3, 2: the places of the two rows
      ((conv => whnf); (repeat ((first | refine RwN.own ?_ | refine VrN.norm (wrap_i64 (by omega)) ?_ | refine VrN.keep ?_ | refine DrawN.calm (by decide +kernel) ?_ | refine Nd.mk (by decide +kernel) ?_ | refine Nd.mk (by omega) ?_ | (refine Nd.mk ?_ ?_; focus ((repeat' (first | exact trivial | exact wkE_refl _ | refine And.intro ?_ ?_)); done)) | refine RdN.intro _ rfl (by rfl) ?_); (conv => whnf))))
      refine BoxN.known _ rfl fun rb => ?_
      ((conv => whnf); (repeat ((first | refine RwN.own ?_ | refine VrN.norm (wrap_i64 (by omega)) ?_ | refine VrN.keep ?_ | refine DrawN.calm (by decide +kernel) ?_ | refine Nd.mk (by decide +kernel) ?_ | refine Nd.mk (by omega) ?_ | (refine Nd.mk ?_ ?_; focus ((repeat' (first | exact trivial | exact wkE_refl _ | refine And.intro ?_ ?_)); done)) | refine RdN.intro _ rfl (by rfl) ?_); (conv => whnf))))
      refine SpecH.pad [vlE nilV, vlE nilV, vlE nilV, vlE nilV, vlE nilV, vlE nilV, vlE nilV, vlE nilV, vlE nilV] rfl ?_
      have ok : RdOk ⟨rb, at0 ab, cap, wa, wc, vb, gb⟩ l W := ⟨fun o ho => (chk_kinds hck o ho).1, hn, hn8, by omega, hwa, fun h => ha (by cases ab with | none => rfl | some b => cases h)⟩
      refine callG (read_c ⟨rb, at0 ab, cap, wa, wc, vb, gb⟩ l W 0 (fun _ => nilV) (List.replicate l.length 0) nilV (W.length + 1) ok (by omega) hwc hWl (by simp) (Nat.zero_le _) (fun _ => Nat.zero_le _) (Nat.le_refl _) (Nat.le_refl _) (by omega)) [0, 4, 3, 2, 5, 6, 7, 8, 9, 10, 11, 12, 13] rfl ⟨rfl, rfl, rfl, rfl, rfl, rfl, rfl, rfl, rfl, rfl, rfl, rfl, rfl, trivial⟩ rfl fun ⟨v, left⟩ ⟨hv, hln, hlc⟩ => ?_
      generalize readS l W false (W.length + 1) (psOf 0 (fun _ => nilV) (List.replicate l.length 0) nilV) = r at *
      obtain ⟨s1, at1, e1⟩ := r
      (first | refine wX ?_ | exact wZ)
      refine brd_ne (fun h4 => ?_) (fun h4 => ?_)
      · obtain rfl : p = (s1, at1, e1) := by rw [hpe]; exact if_pos h4
        (first | refine wX ?_ | exact wZ)
        exact fin_v (.inl ⟨h4, rfl⟩)
      obtain rfl : e1 = 0 := h4
      have hpe2 : p = match finS s1.given 0 l s1.vals with
        | (_, some i) => (s1, i, 3)
        | (v, none) => ({ s1 with vals := v }, 0, 0) := by
        rw [hpe]
        exact if_neg (fun h => h rfl)
      have hgl2 : s1.given.length = l.length := by
        have h := hgl
        simp [psOf] at h
        exact h
      (first | refine wX ?_ | exact wZ)
      refine LoopN.intro (Nat × (Nat → VL)) (fun ⟨i, v⟩ => i ≤ l.length ∧ finS s1.given i (l.drop i) (fun j => (v j).xs) = finS s1.given 0 l s1.vals)
        (fun ⟨i, _⟩ => mkS Tryd.f11.ntmps 0 [(0, .c (.v (.slice (at0 ab) l.length cap))), (6, .c (.lp 1 0)), (7, .c (.v (.int .i64 0))), (8, .c (.v (.int .i64 0))), (9, .c (.v (.pointer (some ⟨rb, 0, none⟩)))), (45, .c (.v (.slice (at0 ab) l.length cap))), (46, .c (.v (.int .i64 (l.length : Int)))), (47, .c (.v (.int .i64 (i : Int))))])
        (fun ⟨_, v⟩ => [.fact (RdF ⟨0, at0 ab, cap, wa, wc, 0, 0⟩ l W), .blk 35 [.v (.slice none 0 0), .v (.slice none 0 0), .v (.slice none 0 0)], gE ⟨rb, at0 ab, cap, wa, wc, vb, gb⟩ l.length s1.given, vE ⟨rb, at0 ab, cap, wa, wc, vb, gb⟩ l.length v, rE ⟨rb, at0 ab, cap, wa, wc, vb, gb⟩ l.length W.length s1.at_ left, vlE left, vlE (v 0), vlE (v 1), vlE (v 2), vlE (v 3), vlE (v 4), vlE (v 5), vlE (v 6), vlE (v 7)]) (fun ⟨i, _⟩ => l.length - i) [] rfl (fun _ => rfl) (fun _ => rfl) (fun _ _ => okHB_eq rfl)
        ⟨⟨0, v⟩, ⟨Nat.zero_le _, by rw [show (fun j => (v j).xs) = s1.vals from funext hv]; rfl⟩, ?_, ⟨wkE_refl _, wkE_refl _, wkE_refl _, wkE_refl _, wkE_refl _, wkE_refl _, wkE_refl _, wkE_refl _, wkE_refl _, wkE_refl _, wkE_refl _, wkE_refl _, wkE_refl _, wkE_refl _, wkH_nil _⟩⟩ ?_
      · (repeat' (first | exact trivial | refine And.intro (by with_reducible rfl) ?_ | (with_reducible exact wkC_refl _) | (with_reducible exact wkCs_refl _) | refine And.intro ?_ ?_))
        all_goals rfl
      clear hv
      rintro ⟨i, v⟩ ⟨hi, he⟩
      (first | refine wX ?_ | exact wZ)
      refine brd_dec (fun h1 => ?_) (fun h1 => ?_)
      · obtain ⟨o, ho⟩ : ∃ o, l[i]? = some o := ⟨_, List.getElem?_eq_getElem (by omega)⟩
        have hil : i < l.length := by omega
        have hsa : (at0 ab).isSome = true := by
          cases ab with
          | none => rw [ha rfl] at ho; cases ho
          | some b => rfl
        have hgi := gC_get (g := s1.given) (i := i) (by omega)
        rw [finS_drop s1.given l i ho] at he
        (first | refine wX ?_ | exact wZ)
        refine Nd.mk ⟨hsa, by omega, by omega⟩ ?_
        (first | refine wX ?_ | exact wZ)
        refine LdN.agg (optC o) rfl (fun w hw => hw.1.1) rfl (fun j hj => by
          rw [Int.toNat_natCast]
          exact optsC_get l i j hj ho) ?_
        (first | refine wX ?_ | exact wZ)
        refine LdN.one (a := some ⟨rb, 0, none⟩) (q := 4) (.slice (some ⟨gb, 0, none⟩) l.length l.length) rfl (fun w hw => hw.2.2.2.1) rfl ?_
        (first | refine wX ?_ | exact wZ)
        refine Nd.mk ⟨rfl, by omega, by omega⟩ ?_
        (first | refine wX ?_ | exact wZ)
        refine LdN.one (.int .i64 (s1.given.getD i 0)) rfl (fun w hw => hw.2.1) (by rw [Int.toNat_natCast]; show (gC s1.given)[i * 1]? = _; rw [Nat.mul_one]; exact hgi) ?_
        (first | refine wX ?_ | exact wZ)
        refine brd_dec (fun h5 => ?_) (fun h5 => ?_)
        · rw [if_pos h5] at he
          (first | refine wX ?_ | exact wZ)
          refine ⟨⟨i + 1, v⟩, ⟨by omega, he⟩, by show l.length - (i + 1) < l.length - i; omega, ?_, ⟨wkE_refl _, wkE_refl _, wkE_refl _, wkE_refl _, wkE_refl _, wkE_refl _, wkE_refl _, wkE_refl _, wkE_refl _, wkE_refl _, wkE_refl _, wkE_refl _, wkE_refl _, wkE_refl _, wkH_nil _⟩⟩
          (repeat' (first | exact trivial | refine And.intro (by with_reducible rfl) ?_ | (with_reducible exact wkC_refl _) | (with_reducible exact wkCs_refl _) | refine And.intro ?_ ?_))
          all_goals first | rfl | exact av_int (by rw [wrap_i64 (by omega)]; omega)
        rw [if_neg h5] at he
        (first | refine wX ?_ | exact wZ)
        cases hm : o.must with
        | true =>
          rw [hm, if_pos rfl] at he
          obtain rfl : p = (s1, i, 3) := by rw [hpe2, ← he]
          (first | refine wX ?_ | exact wZ)
          exact fin_v (.inl ⟨show (3 : Int) ≠ 0 by decide, rfl⟩)
        | false =>
          rw [hm, if_neg (by simp)] at he
          (first | refine wX ?_ | exact wZ)
          rw [show ((bs o.dflt).data.toList == (⟨#[]⟩ : ByteArray).data.toList) = (o.dflt == []) by rw [bs_list]]
          cases hd : o.dflt == [] with
          | true =>
            rw [if_neg (by rw [bne, hd]; simp)] at he
            (first | refine wX ?_ | exact wZ)
            refine ⟨⟨i + 1, v⟩, ⟨by omega, he⟩, by show l.length - (i + 1) < l.length - i; omega, ?_, ⟨wkE_refl _, wkE_refl _, wkE_refl _, wkE_refl _, wkE_refl _, wkE_refl _, wkE_refl _, wkE_refl _, wkE_refl _, wkE_refl _, wkE_refl _, wkE_refl _, wkE_refl _, wkE_refl _, wkH_nil _⟩⟩
            (repeat' (first | exact trivial | refine And.intro (by with_reducible rfl) ?_ | (with_reducible exact wkC_refl _) | (with_reducible exact wkCs_refl _) | refine And.intro ?_ ?_))
            all_goals first | rfl | exact av_int (by rw [wrap_i64 (by omega)]; omega)
          | false =>
            rw [if_pos (by rw [bne, hd]; rfl)] at he
            ((conv => whnf); (repeat ((first | refine BoxN.own ?_ | refine VrN.norm (wrap_i64 (by omega)) ?_ | refine VrN.keep ?_ | refine DrawN.calm (by decide +kernel) ?_ | refine Nd.mk (by decide +kernel) ?_ | refine Nd.mk (by omega) ?_ | (refine Nd.mk ?_ ?_; focus ((repeat' (first | exact trivial | exact wkE_refl _ | refine And.intro ?_ ?_)); done)) | refine RdN.intro _ rfl (by rfl) ?_); (conv => whnf))))
            refine DrawN.plan [0, 5, 6] [(1, 1), (2, 1), (3, 1), (4, 1), (7, 1), (8, 0), (9, 1)] [(10, 0)] (by decide +kernel) ?_
            ((conv => whnf); (repeat ((first | refine BoxN.own ?_ | refine VrN.norm (wrap_i64 (by omega)) ?_ | refine VrN.keep ?_ | refine DrawN.calm (by decide +kernel) ?_ | refine Nd.mk (by decide +kernel) ?_ | refine Nd.mk (by omega) ?_ | (refine Nd.mk ?_ ?_; focus ((repeat' (first | exact trivial | exact wkE_refl _ | refine And.intro ?_ ?_)); done)) | refine RdN.intro _ rfl (by rfl) ?_); (conv => whnf))))
            refine LdN.one (a := some ⟨rb, 0, none⟩) (q := 3) (.slice (some ⟨vb, 0, none⟩) l.length l.length) rfl (fun w hw => hw.2.2.2.1) rfl ?_
            ((conv => whnf); (repeat ((first | refine BoxN.own ?_ | refine VrN.norm (wrap_i64 (by omega)) ?_ | refine VrN.keep ?_ | refine DrawN.calm (by decide +kernel) ?_ | refine Nd.mk (by decide +kernel) ?_ | refine Nd.mk (by omega) ?_ | (refine Nd.mk ?_ ?_; focus ((repeat' (first | exact trivial | exact wkE_refl _ | refine And.intro ?_ ?_)); done)) | refine RdN.intro _ rfl (by rfl) ?_); (conv => whnf))))
            refine RwN.known [_] rfl fun nb => ?_
            ((conv => whnf); (repeat ((first | refine BoxN.own ?_ | refine VrN.norm (wrap_i64 (by omega)) ?_ | refine VrN.keep ?_ | refine DrawN.calm (by decide +kernel) ?_ | refine Nd.mk (by decide +kernel) ?_ | refine Nd.mk (by omega) ?_ | (refine Nd.mk ?_ ?_; focus ((repeat' (first | exact trivial | exact wkE_refl _ | refine And.intro ?_ ?_)); done)) | refine RdN.intro _ rfl (by rfl) ?_); (conv => whnf))))
            try refine Nd.mk ⟨rfl, by omega, by omega⟩ ?_
            ((conv => whnf); (repeat ((first | refine BoxN.own ?_ | refine VrN.norm (wrap_i64 (by omega)) ?_ | refine VrN.keep ?_ | refine DrawN.calm (by decide +kernel) ?_ | refine Nd.mk (by decide +kernel) ?_ | refine Nd.mk (by omega) ?_ | (refine Nd.mk ?_ ?_; focus ((repeat' (first | exact trivial | exact wkE_refl _ | refine And.intro ?_ ?_)); done)) | refine RdN.intro _ rfl (by rfl) ?_); (conv => whnf))))
            have hi8 : i < 8 := by omega
            have he2 : finS s1.given (i + 1) (l.drop (i + 1)) (fun j => (upd v i ⟨[o.dflt], some nb, 1⟩ j).xs) = finS s1.given 0 l s1.vals := by
              rw [show (fun j => (upd v i ⟨[o.dflt], some nb, 1⟩ j).xs) = upd (fun j => (v j).xs) i [o.dflt] from funext fun j => upd_xs v i _ j]
              exact he
            clear he hgi ho
            rcases i with _ | _ | _ | _ | _ | _ | _ | _ | i
            · -- 0: which one, 6: its entry, 3: that of the row
              refine EffW.swp 6 15 rfl rfl rfl ?_
              refine EffW.appTo (i := 3) (q := 0) (ys := [vlV ⟨[o.dflt], some nb, 1⟩]) (vC l.length (upd v 0 ⟨[o.dflt], some nb, 1⟩)) 1 rfl rfl rfl rfl rfl rfl rfl (by show 0 + 1 ≤ l.length * 1; omega) (vC_set v _ hil) rfl ?_
              (first | refine wX ?_ | exact wZ)
              refine ⟨⟨0 + 1, upd v 0 ⟨[o.dflt], some nb, 1⟩⟩, ⟨by omega, he2⟩, by show l.length - (0 + 1) < l.length - 0; omega, ?_, ⟨wkE_refl _, wkE_refl _, wkE_refl _, wkE_refl _, wkE_refl _, wkE_refl _, wkE_refl _, wkE_refl _, wkE_refl _, wkE_refl _, wkE_refl _, wkE_refl _, wkE_refl _, wkE_refl _, wkH_nil _⟩⟩
              (repeat' (first | exact trivial | refine And.intro (by with_reducible rfl) ?_ | (with_reducible exact wkC_refl _) | (with_reducible exact wkCs_refl _) | refine And.intro ?_ ?_))
              all_goals first | rfl | exact av_int (by rw [wrap_i64 (by omega)]; omega)
            · -- 1: which one, 7: its entry, 3: that of the row
              refine EffW.swp 7 15 rfl rfl rfl ?_
              refine EffW.appTo (i := 3) (q := 1) (ys := [vlV ⟨[o.dflt], some nb, 1⟩]) (vC l.length (upd v 1 ⟨[o.dflt], some nb, 1⟩)) 1 rfl rfl rfl rfl rfl rfl rfl (by show 1 + 1 ≤ l.length * 1; omega) (vC_set v _ hil) rfl ?_
              (first | refine wX ?_ | exact wZ)
              refine ⟨⟨1 + 1, upd v 1 ⟨[o.dflt], some nb, 1⟩⟩, ⟨by omega, he2⟩, by show l.length - (1 + 1) < l.length - 1; omega, ?_, ⟨wkE_refl _, wkE_refl _, wkE_refl _, wkE_refl _, wkE_refl _, wkE_refl _, wkE_refl _, wkE_refl _, wkE_refl _, wkE_refl _, wkE_refl _, wkE_refl _, wkE_refl _, wkE_refl _, wkH_nil _⟩⟩
              (repeat' (first | exact trivial | refine And.intro (by with_reducible rfl) ?_ | (with_reducible exact wkC_refl _) | (with_reducible exact wkCs_refl _) | refine And.intro ?_ ?_))
              all_goals first | rfl | exact av_int (by rw [wrap_i64 (by omega)]; omega)
            · -- 2: which one, 8: its entry, 3: that of the row
              refine EffW.swp 8 15 rfl rfl rfl ?_
              refine EffW.appTo (i := 3) (q := 2) (ys := [vlV ⟨[o.dflt], some nb, 1⟩]) (vC l.length (upd v 2 ⟨[o.dflt], some nb, 1⟩)) 1 rfl rfl rfl rfl rfl rfl rfl (by show 2 + 1 ≤ l.length * 1; omega) (vC_set v _ hil) rfl ?_
              (first | refine wX ?_ | exact wZ)
              refine ⟨⟨2 + 1, upd v 2 ⟨[o.dflt], some nb, 1⟩⟩, ⟨by omega, he2⟩, by show l.length - (2 + 1) < l.length - 2; omega, ?_, ⟨wkE_refl _, wkE_refl _, wkE_refl _, wkE_refl _, wkE_refl _, wkE_refl _, wkE_refl _, wkE_refl _, wkE_refl _, wkE_refl _, wkE_refl _, wkE_refl _, wkE_refl _, wkE_refl _, wkH_nil _⟩⟩
              (repeat' (first | exact trivial | refine And.intro (by with_reducible rfl) ?_ | (with_reducible exact wkC_refl _) | (with_reducible exact wkCs_refl _) | refine And.intro ?_ ?_))
              all_goals first | rfl | exact av_int (by rw [wrap_i64 (by omega)]; omega)
            · -- 3: which one, 9: its entry, 3: that of the row
              refine EffW.swp 9 15 rfl rfl rfl ?_
              refine EffW.appTo (i := 3) (q := 3) (ys := [vlV ⟨[o.dflt], some nb, 1⟩]) (vC l.length (upd v 3 ⟨[o.dflt], some nb, 1⟩)) 1 rfl rfl rfl rfl rfl rfl rfl (by show 3 + 1 ≤ l.length * 1; omega) (vC_set v _ hil) rfl ?_
              (first | refine wX ?_ | exact wZ)
              refine ⟨⟨3 + 1, upd v 3 ⟨[o.dflt], some nb, 1⟩⟩, ⟨by omega, he2⟩, by show l.length - (3 + 1) < l.length - 3; omega, ?_, ⟨wkE_refl _, wkE_refl _, wkE_refl _, wkE_refl _, wkE_refl _, wkE_refl _, wkE_refl _, wkE_refl _, wkE_refl _, wkE_refl _, wkE_refl _, wkE_refl _, wkE_refl _, wkE_refl _, wkH_nil _⟩⟩
              (repeat' (first | exact trivial | refine And.intro (by with_reducible rfl) ?_ | (with_reducible exact wkC_refl _) | (with_reducible exact wkCs_refl _) | refine And.intro ?_ ?_))
              all_goals first | rfl | exact av_int (by rw [wrap_i64 (by omega)]; omega)
            · -- 4: which one, 10: its entry, 3: that of the row
              refine EffW.swp 10 15 rfl rfl rfl ?_
              refine EffW.appTo (i := 3) (q := 4) (ys := [vlV ⟨[o.dflt], some nb, 1⟩]) (vC l.length (upd v 4 ⟨[o.dflt], some nb, 1⟩)) 1 rfl rfl rfl rfl rfl rfl rfl (by show 4 + 1 ≤ l.length * 1; omega) (vC_set v _ hil) rfl ?_
              (first | refine wX ?_ | exact wZ)
              refine ⟨⟨4 + 1, upd v 4 ⟨[o.dflt], some nb, 1⟩⟩, ⟨by omega, he2⟩, by show l.length - (4 + 1) < l.length - 4; omega, ?_, ⟨wkE_refl _, wkE_refl _, wkE_refl _, wkE_refl _, wkE_refl _, wkE_refl _, wkE_refl _, wkE_refl _, wkE_refl _, wkE_refl _, wkE_refl _, wkE_refl _, wkE_refl _, wkE_refl _, wkH_nil _⟩⟩
              (repeat' (first | exact trivial | refine And.intro (by with_reducible rfl) ?_ | (with_reducible exact wkC_refl _) | (with_reducible exact wkCs_refl _) | refine And.intro ?_ ?_))
              all_goals first | rfl | exact av_int (by rw [wrap_i64 (by omega)]; omega)
            · -- 5: which one, 11: its entry, 3: that of the row
              refine EffW.swp 11 15 rfl rfl rfl ?_
              refine EffW.appTo (i := 3) (q := 5) (ys := [vlV ⟨[o.dflt], some nb, 1⟩]) (vC l.length (upd v 5 ⟨[o.dflt], some nb, 1⟩)) 1 rfl rfl rfl rfl rfl rfl rfl (by show 5 + 1 ≤ l.length * 1; omega) (vC_set v _ hil) rfl ?_
              (first | refine wX ?_ | exact wZ)
              refine ⟨⟨5 + 1, upd v 5 ⟨[o.dflt], some nb, 1⟩⟩, ⟨by omega, he2⟩, by show l.length - (5 + 1) < l.length - 5; omega, ?_, ⟨wkE_refl _, wkE_refl _, wkE_refl _, wkE_refl _, wkE_refl _, wkE_refl _, wkE_refl _, wkE_refl _, wkE_refl _, wkE_refl _, wkE_refl _, wkE_refl _, wkE_refl _, wkE_refl _, wkH_nil _⟩⟩
              (repeat' (first | exact trivial | refine And.intro (by with_reducible rfl) ?_ | (with_reducible exact wkC_refl _) | (with_reducible exact wkCs_refl _) | refine And.intro ?_ ?_))
              all_goals first | rfl | exact av_int (by rw [wrap_i64 (by omega)]; omega)
            · -- 6: which one, 12: its entry, 3: that of the row
              refine EffW.swp 12 15 rfl rfl rfl ?_
              refine EffW.appTo (i := 3) (q := 6) (ys := [vlV ⟨[o.dflt], some nb, 1⟩]) (vC l.length (upd v 6 ⟨[o.dflt], some nb, 1⟩)) 1 rfl rfl rfl rfl rfl rfl rfl (by show 6 + 1 ≤ l.length * 1; omega) (vC_set v _ hil) rfl ?_
              (first | refine wX ?_ | exact wZ)
              refine ⟨⟨6 + 1, upd v 6 ⟨[o.dflt], some nb, 1⟩⟩, ⟨by omega, he2⟩, by show l.length - (6 + 1) < l.length - 6; omega, ?_, ⟨wkE_refl _, wkE_refl _, wkE_refl _, wkE_refl _, wkE_refl _, wkE_refl _, wkE_refl _, wkE_refl _, wkE_refl _, wkE_refl _, wkE_refl _, wkE_refl _, wkE_refl _, wkE_refl _, wkH_nil _⟩⟩
              (repeat' (first | exact trivial | refine And.intro (by with_reducible rfl) ?_ | (with_reducible exact wkC_refl _) | (with_reducible exact wkCs_refl _) | refine And.intro ?_ ?_))
              all_goals first | rfl | exact av_int (by rw [wrap_i64 (by omega)]; omega)
            · -- 7: which one, 13: its entry, 3: that of the row
              refine EffW.swp 13 15 rfl rfl rfl ?_
              refine EffW.appTo (i := 3) (q := 7) (ys := [vlV ⟨[o.dflt], some nb, 1⟩]) (vC l.length (upd v 7 ⟨[o.dflt], some nb, 1⟩)) 1 rfl rfl rfl rfl rfl rfl rfl (by show 7 + 1 ≤ l.length * 1; omega) (vC_set v _ hil) rfl ?_
              (first | refine wX ?_ | exact wZ)
              refine ⟨⟨7 + 1, upd v 7 ⟨[o.dflt], some nb, 1⟩⟩, ⟨by omega, he2⟩, by show l.length - (7 + 1) < l.length - 7; omega, ?_, ⟨wkE_refl _, wkE_refl _, wkE_refl _, wkE_refl _, wkE_refl _, wkE_refl _, wkE_refl _, wkE_refl _, wkE_refl _, wkE_refl _, wkE_refl _, wkE_refl _, wkE_refl _, wkE_refl _, wkH_nil _⟩⟩
              (repeat' (first | exact trivial | refine And.intro (by with_reducible rfl) ?_ | (with_reducible exact wkC_refl _) | (with_reducible exact wkCs_refl _) | refine And.intro ?_ ?_))
              all_goals first | rfl | exact av_int (by rw [wrap_i64 (by omega)]; omega)
            · omega
      · have hin : i = l.length := by omega
        subst hin
        rw [List.drop_of_length_le (Nat.le_refl _)] at he
        obtain rfl : p = ({ s1 with vals := fun j => (v j).xs }, 0, 0) := by rw [hpe2, ← he]; rfl
        (first | refine wX ?_ | exact wZ)
        refine LdN.agg (a := some ⟨rb, 0, none⟩) (q := 3) [.slice (some ⟨vb, 0, none⟩) l.length l.length, .slice (some ⟨gb, 0, none⟩) l.length l.length, vlV left] rfl (fun w hw => hw.2.2.2.1) rfl (fun j hj => by
          have hj3 : j < 3 := hj
          clear hj
          rcases j with _ | _ | _ | j <;> first | rfl | omega) ?_
        (first | refine wX ?_ | exact wZ)
        refine fin_p (ResF l.length vb gb v s1.given left) (.inr ⟨rfl, vb, gb, v, left, rfl, fun _ => rfl, hln, hgl2, fun w hw => hw⟩) fun w hw => ⟨hw.2.2.1, hw.2.1, hw.2.2.2.2.1, fun j hj => ?_⟩
        rcases j with _ | _ | _ | _ | _ | _ | _ | _ | j
        · exact hw.2.2.2.2.2.1
        · exact hw.2.2.2.2.2.2.1
        · exact hw.2.2.2.2.2.2.2.1
        · exact hw.2.2.2.2.2.2.2.2.1
        · exact hw.2.2.2.2.2.2.2.2.2.1
        · exact hw.2.2.2.2.2.2.2.2.2.2.1
        · exact hw.2.2.2.2.2.2.2.2.2.2.2.1
        · exact hw.2.2.2.2.2.2.2.2.2.2.2.2.1
        · omega
end Go.Proofs.YteljlkkppaobeaaDoor

/-
  Contracts: options and words that numbers make (document), options for the program.
-/
namespace Go.Proofs.YteljlkkppaobeaaDoor
open Go.AX Go.RowKit Go.Opts
set_option maxRecDepth 20000

def iC (l : List Int) : List Value := l.map fun x => .int .i64 x
theorem iC_get {l : List Int} {i : Nat} {x : Int} (h : l[i]? = some x) : (iC l)[i]? = some (.int .i64 x) := by
  unfold iC; rw [List.getElem?_map, h]; rfl
/-- A slice of options that is handed back. -/
def OptsR (l : List Opt) (x : Value) (G : World → Prop) : Prop := ∃ (ob : Option Nat) (cap : Nat), x = .slice (at0 ob) l.length cap ∧ (ob = none → l = []) ∧ l.length ≤ cap ∧ ∀ w, G w → SlAt (at0 ob) (l.length * 5) (optsC l) w
theorem optsC_snoc (l : List Opt) (o : Opt) : optsC l ++ optC o = optsC (l ++ [o]) := by simp [optsC]
theorem grownA_snoc : ∀ (l : List Int) (i : Nat) (n : Int), grownA (l ++ [n]) i = grownA l i ++ [grownG (i + l.length) n]
  | [], _, _ => rfl
  | a :: l, i, n => by
    show grownG i a :: grownA (l ++ [n]) (i + 1) = grownG i a :: (grownA l (i + 1) ++ [_])
    rw [grownA_snoc l (i + 1) n, List.length_cons, show i + 1 + l.length = i + (l.length + 1) by omega]
def namesL : List (List UInt8) := [nameG 0, nameG 1, nameG 2, nameG 3, nameG 4, nameG 5, nameG 6, nameG 7]
theorem shortG_at (i : Nat) (h : i < 8) : byteAt ⟨#[118, 86, 111, 79, 113, 102, 49, 110]⟩ i = ((shortG i).toNat : Int) := by
  rcases i with _ | _ | _ | _ | _ | _ | _ | _ | i <;> first | rfl | omega
theorem names_at (i : Nat) (h : i < 8) : (strC namesL)[i]? = some (.string (bs (nameG i))) := by
  rcases i with _ | _ | _ | _ | _ | _ | _ | _ | i <;> first | rfl | omega
set_option maxHeartbeats 2000000 in
theorem Grown_c (a : Option Addr) (c : Nat) (l : List Int) (ha : a = none → l = []) (hl : l.length ≤ 200000000000000) : SpecF Tryd.prog 9 [.slice a l.length c] (SlAt a (l.length * 1) (iC l)) (OptsR (grownS l)) := by
  refine specF hm Tryd.func9 (by kernel_rfl) rfl rfl ?_
  ((conv => whnf); (repeat ((first | refine BoxN.own ?_ | refine VrN.norm (wrap_i64 (by omega)) ?_ | refine VrN.keep ?_ | refine DrawN.calm (by decide +kernel) ?_ | refine Nd.mk (by decide +kernel) ?_ | refine Nd.mk (by omega) ?_ | (refine Nd.mk ?_ ?_; focus ((repeat' (first | exact trivial | exact wkE_refl _ | refine And.intro ?_ ?_)); done)) | refine RdN.intro _ rfl (by rfl) ?_); (conv => whnf))))
  refine RwN.known (strC namesL) rfl fun nb => ?_
  ((conv => whnf); (repeat ((first | refine BoxN.own ?_ | refine VrN.norm (wrap_i64 (by omega)) ?_ | refine VrN.keep ?_ | refine DrawN.calm (by decide +kernel) ?_ | refine Nd.mk (by decide +kernel) ?_ | refine Nd.mk (by omega) ?_ | (refine Nd.mk ?_ ?_; focus ((repeat' (first | exact trivial | exact wkE_refl _ | refine And.intro ?_ ?_)); done)) | refine RdN.intro _ rfl (by rfl) ?_); (conv => whnf))))
  refine LoopN.intro (Nat × Option Nat × Nat) (fun ⟨i, ob, cap⟩ => (i ≤ l.length ∧ i ≤ 8) ∧ (ob = none → i = 0) ∧ i ≤ cap) (fun ⟨i, ob, cap⟩ => mkS Tryd.f9.ntmps 0 [(0, .c (.v (.slice a l.length c))), (3, .c (.v (.slice (some ⟨nb, 0, none⟩) 8 8))), (4, .c (.v (.slice (at0 ob) i cap))), (5, .c (.v (.int .i64 (i : Int))))])
    (fun ⟨i, ob, cap⟩ => [.fact (SlAt a (l.length * 1) (iC l)), .app 9 1 (strC namesL) (some ⟨nb, 0, none⟩) 8 8, .app 52 5 (optsC (grownA (l.take i) 0)) (at0 ob) i cap]) (fun ⟨i, _, _⟩ => l.length - i) [.app 0 0 [] none 0 0] rfl (fun _ => rfl) (fun _ => rfl) (fun _ _ => okHB_eq rfl)
    ⟨⟨0, none, 0⟩, ⟨⟨Nat.zero_le _, Nat.zero_le _⟩, fun _ => rfl, Nat.le_refl _⟩, ?_, ⟨wkE_refl _, wkE_refl _, wkE_nil, wkH_nil _⟩⟩ ?_
  · (repeat' (first | exact trivial | refine And.intro (by with_reducible rfl) ?_ | (with_reducible exact wkC_refl _) | (with_reducible exact wkCs_refl _) | refine And.intro ?_ ?_))
    all_goals rfl
  rintro ⟨i, ob, cap⟩ ⟨⟨hi, hi8⟩, hob, hic⟩
  have hfin : i = l.length ∨ i = 8 → grownA (l.take i) 0 = grownS l ∧ (grownS l).length = i := fun h => by
    have h1 : l.take i = l.take 8 := by
      rcases h with h | h
      · rw [h, List.take_of_length_le (Nat.le_refl _), List.take_of_length_le (by omega)]
      · rw [h]
    refine ⟨by unfold grownS; rw [h1], ?_⟩
    rw [grown_len]
    omega
  ((conv => whnf); (repeat ((first | refine BoxN.own ?_ | refine VrN.norm (wrap_i64 (by omega)) ?_ | refine VrN.keep ?_ | refine DrawN.calm (by decide +kernel) ?_ | refine Nd.mk (by decide +kernel) ?_ | refine Nd.mk (by omega) ?_ | (refine Nd.mk ?_ ?_; focus ((repeat' (first | exact trivial | exact wkE_refl _ | refine And.intro ?_ ?_)); done)) | refine RdN.intro _ rfl (by rfl) ?_); (conv => whnf))))
  refine brd_dec (fun h1 => ?_) (fun h1 => ?_)
  · ((conv => whnf); (repeat ((first | refine BoxN.own ?_ | refine VrN.norm (wrap_i64 (by omega)) ?_ | refine VrN.keep ?_ | refine DrawN.calm (by decide +kernel) ?_ | refine Nd.mk (by decide +kernel) ?_ | refine Nd.mk (by omega) ?_ | (refine Nd.mk ?_ ?_; focus ((repeat' (first | exact trivial | exact wkE_refl _ | refine And.intro ?_ ?_)); done)) | refine RdN.intro _ rfl (by rfl) ?_); (conv => whnf))))
    refine brd_dec (fun h2 => ?_) (fun h2 => ?_)
    · obtain ⟨n, hn⟩ : ∃ n, l[i]? = some n := ⟨_, List.getElem?_eq_getElem (by omega)⟩
      have hsa : a.isSome = true := by
        cases a with
        | none => rw [ha rfl] at hn; cases hn
        | some b => rfl
      obtain ⟨U, hU⟩ : ∃ U : Nat, IntKind.u64.wrap n = (U : Int) := ⟨(IntKind.u64.wrap n).toNat, by have := wrap_u64_bd n; omega⟩
      have hU64 : (U : Int) < 18446744073709551616 := by have := wrap_u64_bd n; omega
      have e6 : (U : Int).tmod 6 = ((U % 6 : Nat) : Int) := (Int.ofNat_tmod U 6).symm
      have q6 : IntKind.u64.wrap ((U : Int).tdiv 6) = ((U / 6 : Nat) : Int) := by rw [show (U : Int).tdiv 6 = ((U / 6 : Nat) : Int) from (Int.ofNat_tdiv U 6).symm, wrap_u64 (by omega)]
      have q48 : IntKind.u64.wrap ((U : Int).tdiv 48) = ((U / 48 : Nat) : Int) := by rw [show (U : Int).tdiv 48 = ((U / 48 : Nat) : Int) from (Int.ofNat_tdiv U 48).symm, wrap_u64 (by omega)]
      have q144 : IntKind.u64.wrap ((U : Int).tdiv 144) = ((U / 144 : Nat) : Int) := by rw [show (U : Int).tdiv 144 = ((U / 144 : Nat) : Int) from (Int.ofNat_tdiv U 144).symm, wrap_u64 (by omega)]
      have m8 : ((U / 6 : Nat) : Int).tmod 8 = ((U / 6 % 8 : Nat) : Int) := (Int.ofNat_tmod (U / 6) 8).symm
      have m48 : ((U / 48 : Nat) : Int).tmod 3 = ((U / 48 % 3 : Nat) : Int) := (Int.ofNat_tmod (U / 48) 3).symm
      have m144 : ((U / 144 : Nat) : Int).tmod 2 = ((U / 144 % 2 : Nat) : Int) := (Int.ofNat_tmod (U / 144) 2).symm
      have hGn : grownG i n = optG i (decide (0 < ((U / 48 % 3 : Nat) : Int))) ((U % 6 : Nat) : Int) ((((U % 6 : Nat) : Int) == 1 || ((U % 6 : Nat) : Int) == 2) && ((U / 144 % 2 : Nat) : Int) == 1) (((U / 6 % 8 : Nat) : Int) == 1) := by
        unfold grownG
        rw [hU]
        rfl
      have hsn : grownA (l.take (i + 1)) 0 = grownA (l.take i) 0 ++ [grownG i n] := by
        have hlt : (l.take i).length = i := by rw [List.length_take]; omega
        rw [List.take_add_one, hn, show (some n).toList = [n] from rfl, grownA_snoc, hlt, Nat.zero_add]
      ((conv => whnf); (repeat ((first | refine BoxN.own ?_ | refine VrN.norm (wrap_i64 (by omega)) ?_ | refine VrN.keep ?_ | refine DrawN.calm (by decide +kernel) ?_ | refine Nd.mk (by decide +kernel) ?_ | refine Nd.mk (by omega) ?_ | (refine Nd.mk ?_ ?_; focus ((repeat' (first | exact trivial | exact wkE_refl _ | refine And.intro ?_ ?_)); done)) | refine RdN.intro _ rfl (by rfl) ?_); (conv => whnf))))
      refine Nd.mk ⟨hsa, by omega, by omega⟩ ?_
      ((conv => whnf); (repeat ((first | refine BoxN.own ?_ | refine VrN.norm (wrap_i64 (by omega)) ?_ | refine VrN.keep ?_ | refine DrawN.calm (by decide +kernel) ?_ | refine Nd.mk (by decide +kernel) ?_ | refine Nd.mk (by omega) ?_ | (refine Nd.mk ?_ ?_; focus ((repeat' (first | exact trivial | exact wkE_refl _ | refine And.intro ?_ ?_)); done)) | refine RdN.intro _ rfl (by rfl) ?_); (conv => whnf))))
      refine LdN.one (.int .i64 n) rfl (fun w hw => hw.1) (by rw [Int.toNat_natCast]; show (iC l)[i * 1]? = _; rw [Nat.mul_one]; exact iC_get hn) ?_
      ((conv => whnf); (repeat ((first | refine BoxN.own ?_ | refine VrN.norm (wrap_i64 (by omega)) ?_ | refine VrN.keep ?_ | refine DrawN.calm (by decide +kernel) ?_ | refine Nd.mk (by decide +kernel) ?_ | refine Nd.mk (by omega) ?_ | (refine Nd.mk ?_ ?_; focus ((repeat' (first | exact trivial | exact wkE_refl _ | refine And.intro ?_ ?_)); done)) | refine RdN.intro _ rfl (by rfl) ?_); (conv => whnf))))
      rw [hU]
      refine Nd.mk ⟨rfl, by omega, by omega⟩ ?_
      ((conv => whnf); (repeat ((first | refine BoxN.own ?_ | refine VrN.norm (wrap_i64 (by omega)) ?_ | refine VrN.keep ?_ | refine DrawN.calm (by decide +kernel) ?_ | refine Nd.mk (by decide +kernel) ?_ | refine Nd.mk (by omega) ?_ | (refine Nd.mk ?_ ?_; focus ((repeat' (first | exact trivial | exact wkE_refl _ | refine And.intro ?_ ?_)); done)) | refine RdN.intro _ rfl (by rfl) ?_); (conv => whnf))))
      refine LdN.one (.string (bs (nameG i))) rfl (fun w hw => hw.2.1) (by rw [Int.toNat_natCast]; show (strC namesL)[i * 1]? = _; rw [Nat.mul_one]; exact names_at i (by omega)) ?_
      ((conv => whnf); (repeat ((first | refine BoxN.own ?_ | refine VrN.norm (wrap_i64 (by omega)) ?_ | refine VrN.keep ?_ | refine DrawN.calm (by decide +kernel) ?_ | refine Nd.mk (by decide +kernel) ?_ | refine Nd.mk (by omega) ?_ | (refine Nd.mk ?_ ?_; focus ((repeat' (first | exact trivial | exact wkE_refl _ | refine And.intro ?_ ?_)); done)) | refine RdN.intro _ rfl (by rfl) ?_); (conv => whnf))))
      rw [e6, show IntKind.i64.wrap ((U % 6 : Nat) : Int) = ((U % 6 : Nat) : Int) from wrap_i64 (by omega), q6, q48, m8, m48]
      refine brd_dec (fun h6 => ?_) (fun h6 => ?_)
      · (first | refine wX ?_ | exact wZ)
        refine Nd.mk ⟨by omega, by show (i : Int) < 8; omega⟩ ?_
        (first | refine wX ?_ | exact wZ)
        rw [Int.toNat_natCast, shortG_at i (by omega)]
        -- (shortG i): the short, show decide (0 < ((U / 48 % 3 : Nat) : Int)) = true by simp; omega: why
        (first | refine wX ?_ | exact wZ)
        refine brd_eq (fun h7 => ?_) (fun h7 => ?_)
        · -- (shortG i): the short, show decide (0 < ((U / 48 % 3 : Nat) : Int)) = true by simp; omega: why it is, simp; omega: that the kind is one of the two
          (first | refine wX ?_ | exact wZ)
          rw [q144, m144]
          refine brd_eq (fun h9 => ?_) (fun h9 => ?_)
          · (first | refine wX ?_ | exact wZ)
            -- the option is put behind the others; (shortG i): its short, dfltG: its default, rw [show decide (0 < ((U / 48 % 3 : Nat) : Int)) = true by simp; omega, show (((U % 6 : Nat) : Int) == 1 || ((U % 6 : Nat) : Int) == 2) = true by simp; omega, show (((U / 144 % 2 : Nat) : Int) == 1) = true by simp; omega]; rfl: why
            have hG : grownG i n = ⟨nameG i, (shortG i), ((U % 6 : Nat) : Int), dfltG, (((U / 6 % 8 : Nat) : Int) == 1)⟩ := by
              rw [hGn]
              rw [show decide (0 < ((U / 48 % 3 : Nat) : Int)) = true by simp; omega, show (((U % 6 : Nat) : Int) == 1 || ((U % 6 : Nat) : Int) == 2) = true by simp; omega, show (((U / 144 % 2 : Nat) : Int) == 1) = true by simp; omega]; rfl
            (first | refine wX ?_ | exact wZ)
            try refine Nd.mk ⟨Nat.le_refl 1, rfl, rfl⟩ ?_
            (conv => whnf)
            refine AppN.grow 2 (optsC (grownA (l.take i) 0)) (optC (grownG i n)) rfl (by rw [hG]; rfl) ⟨Nat.le_refl 1, ⟨by show (i + 1) * 56 ≤ _; omega, by show i + 1 < _; omega⟩, by show 5 ≠ 0; omega⟩ fun b1 c1 h11 h12 => ?_
            (first | refine wX ?_ | exact wZ)
            refine ⟨⟨i + 1, some b1, c1⟩, ⟨⟨by omega, by omega⟩, (fun h => by cases h), h11⟩, by show l.length - (i + 1) < l.length - i; omega, ?_, ⟨wkE_refl _, wkE_refl _, .inl ⟨rfl, rfl, by rw [hsn, optsC_snoc], rfl, rfl, rfl⟩, wkH_nil _⟩⟩
            (repeat' (first | exact trivial | refine And.intro (by with_reducible rfl) ?_ | (with_reducible exact wkC_refl _) | (with_reducible exact wkCs_refl _) | refine And.intro ?_ ?_))
            all_goals first | rfl | exact av_int (by rw [wrap_i64 (by omega)]; omega)
          · -- the option is put behind the others; (shortG i): its short, []: its default, rw [show decide (0 < ((U / 48 % 3 : Nat) : Int)) = true by simp; omega, show (((U / 144 % 2 : Nat) : Int) == 1) = false by simp; omega, Bool.and_false]; rfl: why
            have hG : grownG i n = ⟨nameG i, (shortG i), ((U % 6 : Nat) : Int), [], (((U / 6 % 8 : Nat) : Int) == 1)⟩ := by
              rw [hGn]
              rw [show decide (0 < ((U / 48 % 3 : Nat) : Int)) = true by simp; omega, show (((U / 144 % 2 : Nat) : Int) == 1) = false by simp; omega, Bool.and_false]; rfl
            (first | refine wX ?_ | exact wZ)
            try refine Nd.mk ⟨Nat.le_refl 1, rfl, rfl⟩ ?_
            (conv => whnf)
            refine AppN.grow 2 (optsC (grownA (l.take i) 0)) (optC (grownG i n)) rfl (by rw [hG]; rfl) ⟨Nat.le_refl 1, ⟨by show (i + 1) * 56 ≤ _; omega, by show i + 1 < _; omega⟩, by show 5 ≠ 0; omega⟩ fun b1 c1 h11 h12 => ?_
            (first | refine wX ?_ | exact wZ)
            refine ⟨⟨i + 1, some b1, c1⟩, ⟨⟨by omega, by omega⟩, (fun h => by cases h), h11⟩, by show l.length - (i + 1) < l.length - i; omega, ?_, ⟨wkE_refl _, wkE_refl _, .inl ⟨rfl, rfl, by rw [hsn, optsC_snoc], rfl, rfl, rfl⟩, wkH_nil _⟩⟩
            (repeat' (first | exact trivial | refine And.intro (by with_reducible rfl) ?_ | (with_reducible exact wkC_refl _) | (with_reducible exact wkCs_refl _) | refine And.intro ?_ ?_))
            all_goals first | rfl | exact av_int (by rw [wrap_i64 (by omega)]; omega)
        · (first | refine wX ?_ | exact wZ)
          refine brd_eq (fun h8 => ?_) (fun h8 => ?_)
          · -- (shortG i): the short, show decide (0 < ((U / 48 % 3 : Nat) : Int)) = true by simp; omega: why it is, simp; omega: that the kind is one of the two
            (first | refine wX ?_ | exact wZ)
            rw [q144, m144]
            refine brd_eq (fun h9 => ?_) (fun h9 => ?_)
            · (first | refine wX ?_ | exact wZ)
              -- the option is put behind the others; (shortG i): its short, dfltG: its default, rw [show decide (0 < ((U / 48 % 3 : Nat) : Int)) = true by simp; omega, show (((U % 6 : Nat) : Int) == 1 || ((U % 6 : Nat) : Int) == 2) = true by simp; omega, show (((U / 144 % 2 : Nat) : Int) == 1) = true by simp; omega]; rfl: why
              have hG : grownG i n = ⟨nameG i, (shortG i), ((U % 6 : Nat) : Int), dfltG, (((U / 6 % 8 : Nat) : Int) == 1)⟩ := by
                rw [hGn]
                rw [show decide (0 < ((U / 48 % 3 : Nat) : Int)) = true by simp; omega, show (((U % 6 : Nat) : Int) == 1 || ((U % 6 : Nat) : Int) == 2) = true by simp; omega, show (((U / 144 % 2 : Nat) : Int) == 1) = true by simp; omega]; rfl
              (first | refine wX ?_ | exact wZ)
              try refine Nd.mk ⟨Nat.le_refl 1, rfl, rfl⟩ ?_
              (conv => whnf)
              refine AppN.grow 2 (optsC (grownA (l.take i) 0)) (optC (grownG i n)) rfl (by rw [hG]; rfl) ⟨Nat.le_refl 1, ⟨by show (i + 1) * 56 ≤ _; omega, by show i + 1 < _; omega⟩, by show 5 ≠ 0; omega⟩ fun b1 c1 h11 h12 => ?_
              (first | refine wX ?_ | exact wZ)
              refine ⟨⟨i + 1, some b1, c1⟩, ⟨⟨by omega, by omega⟩, (fun h => by cases h), h11⟩, by show l.length - (i + 1) < l.length - i; omega, ?_, ⟨wkE_refl _, wkE_refl _, .inl ⟨rfl, rfl, by rw [hsn, optsC_snoc], rfl, rfl, rfl⟩, wkH_nil _⟩⟩
              (repeat' (first | exact trivial | refine And.intro (by with_reducible rfl) ?_ | (with_reducible exact wkC_refl _) | (with_reducible exact wkCs_refl _) | refine And.intro ?_ ?_))
              all_goals first | rfl | exact av_int (by rw [wrap_i64 (by omega)]; omega)
            · -- the option is put behind the others; (shortG i): its short, []: its default, rw [show decide (0 < ((U / 48 % 3 : Nat) : Int)) = true by simp; omega, show (((U / 144 % 2 : Nat) : Int) == 1) = false by simp; omega, Bool.and_false]; rfl: why
              have hG : grownG i n = ⟨nameG i, (shortG i), ((U % 6 : Nat) : Int), [], (((U / 6 % 8 : Nat) : Int) == 1)⟩ := by
                rw [hGn]
                rw [show decide (0 < ((U / 48 % 3 : Nat) : Int)) = true by simp; omega, show (((U / 144 % 2 : Nat) : Int) == 1) = false by simp; omega, Bool.and_false]; rfl
              (first | refine wX ?_ | exact wZ)
              try refine Nd.mk ⟨Nat.le_refl 1, rfl, rfl⟩ ?_
              (conv => whnf)
              refine AppN.grow 2 (optsC (grownA (l.take i) 0)) (optC (grownG i n)) rfl (by rw [hG]; rfl) ⟨Nat.le_refl 1, ⟨by show (i + 1) * 56 ≤ _; omega, by show i + 1 < _; omega⟩, by show 5 ≠ 0; omega⟩ fun b1 c1 h11 h12 => ?_
              (first | refine wX ?_ | exact wZ)
              refine ⟨⟨i + 1, some b1, c1⟩, ⟨⟨by omega, by omega⟩, (fun h => by cases h), h11⟩, by show l.length - (i + 1) < l.length - i; omega, ?_, ⟨wkE_refl _, wkE_refl _, .inl ⟨rfl, rfl, by rw [hsn, optsC_snoc], rfl, rfl, rfl⟩, wkH_nil _⟩⟩
              (repeat' (first | exact trivial | refine And.intro (by with_reducible rfl) ?_ | (with_reducible exact wkC_refl _) | (with_reducible exact wkCs_refl _) | refine And.intro ?_ ?_))
              all_goals first | rfl | exact av_int (by rw [wrap_i64 (by omega)]; omega)
          · -- the option is put behind the others; (shortG i): its short, []: its default, rw [show decide (0 < ((U / 48 % 3 : Nat) : Int)) = true by simp; omega, show (((U % 6 : Nat) : Int) == 1 || ((U % 6 : Nat) : Int) == 2) = false by simp; omega, Bool.false_and]; rfl: why
            have hG : grownG i n = ⟨nameG i, (shortG i), ((U % 6 : Nat) : Int), [], (((U / 6 % 8 : Nat) : Int) == 1)⟩ := by
              rw [hGn]
              rw [show decide (0 < ((U / 48 % 3 : Nat) : Int)) = true by simp; omega, show (((U % 6 : Nat) : Int) == 1 || ((U % 6 : Nat) : Int) == 2) = false by simp; omega, Bool.false_and]; rfl
            (first | refine wX ?_ | exact wZ)
            try refine Nd.mk ⟨Nat.le_refl 1, rfl, rfl⟩ ?_
            (conv => whnf)
            refine AppN.grow 2 (optsC (grownA (l.take i) 0)) (optC (grownG i n)) rfl (by rw [hG]; rfl) ⟨Nat.le_refl 1, ⟨by show (i + 1) * 56 ≤ _; omega, by show i + 1 < _; omega⟩, by show 5 ≠ 0; omega⟩ fun b1 c1 h11 h12 => ?_
            (first | refine wX ?_ | exact wZ)
            refine ⟨⟨i + 1, some b1, c1⟩, ⟨⟨by omega, by omega⟩, (fun h => by cases h), h11⟩, by show l.length - (i + 1) < l.length - i; omega, ?_, ⟨wkE_refl _, wkE_refl _, .inl ⟨rfl, rfl, by rw [hsn, optsC_snoc], rfl, rfl, rfl⟩, wkH_nil _⟩⟩
            (repeat' (first | exact trivial | refine And.intro (by with_reducible rfl) ?_ | (with_reducible exact wkC_refl _) | (with_reducible exact wkCs_refl _) | refine And.intro ?_ ?_))
            all_goals first | rfl | exact av_int (by rw [wrap_i64 (by omega)]; omega)
      · -- 0: the short, show decide (0 < ((U / 48 % 3 : Nat) : Int)) = false by simp; omega: why
        (first | refine wX ?_ | exact wZ)
        refine brd_eq (fun h7 => ?_) (fun h7 => ?_)
        · -- 0: the short, show decide (0 < ((U / 48 % 3 : Nat) : Int)) = false by simp; omega: why it is, simp; omega: that the kind is one of the two
          (first | refine wX ?_ | exact wZ)
          rw [q144, m144]
          refine brd_eq (fun h9 => ?_) (fun h9 => ?_)
          · (first | refine wX ?_ | exact wZ)
            -- the option is put behind the others; 0: its short, dfltG: its default, rw [show decide (0 < ((U / 48 % 3 : Nat) : Int)) = false by simp; omega, show (((U % 6 : Nat) : Int) == 1 || ((U % 6 : Nat) : Int) == 2) = true by simp; omega, show (((U / 144 % 2 : Nat) : Int) == 1) = true by simp; omega]; rfl: why
            have hG : grownG i n = ⟨nameG i, 0, ((U % 6 : Nat) : Int), dfltG, (((U / 6 % 8 : Nat) : Int) == 1)⟩ := by
              rw [hGn]
              rw [show decide (0 < ((U / 48 % 3 : Nat) : Int)) = false by simp; omega, show (((U % 6 : Nat) : Int) == 1 || ((U % 6 : Nat) : Int) == 2) = true by simp; omega, show (((U / 144 % 2 : Nat) : Int) == 1) = true by simp; omega]; rfl
            (first | refine wX ?_ | exact wZ)
            try refine Nd.mk ⟨Nat.le_refl 1, rfl, rfl⟩ ?_
            (conv => whnf)
            refine AppN.grow 2 (optsC (grownA (l.take i) 0)) (optC (grownG i n)) rfl (by rw [hG]; rfl) ⟨Nat.le_refl 1, ⟨by show (i + 1) * 56 ≤ _; omega, by show i + 1 < _; omega⟩, by show 5 ≠ 0; omega⟩ fun b1 c1 h11 h12 => ?_
            (first | refine wX ?_ | exact wZ)
            refine ⟨⟨i + 1, some b1, c1⟩, ⟨⟨by omega, by omega⟩, (fun h => by cases h), h11⟩, by show l.length - (i + 1) < l.length - i; omega, ?_, ⟨wkE_refl _, wkE_refl _, .inl ⟨rfl, rfl, by rw [hsn, optsC_snoc], rfl, rfl, rfl⟩, wkH_nil _⟩⟩
            (repeat' (first | exact trivial | refine And.intro (by with_reducible rfl) ?_ | (with_reducible exact wkC_refl _) | (with_reducible exact wkCs_refl _) | refine And.intro ?_ ?_))
            all_goals first | rfl | exact av_int (by rw [wrap_i64 (by omega)]; omega)
          · -- the option is put behind the others; 0: its short, []: its default, rw [show decide (0 < ((U / 48 % 3 : Nat) : Int)) = false by simp; omega, show (((U / 144 % 2 : Nat) : Int) == 1) = false by simp; omega, Bool.and_false]; rfl: why
            have hG : grownG i n = ⟨nameG i, 0, ((U % 6 : Nat) : Int), [], (((U / 6 % 8 : Nat) : Int) == 1)⟩ := by
              rw [hGn]
              rw [show decide (0 < ((U / 48 % 3 : Nat) : Int)) = false by simp; omega, show (((U / 144 % 2 : Nat) : Int) == 1) = false by simp; omega, Bool.and_false]; rfl
            (first | refine wX ?_ | exact wZ)
            try refine Nd.mk ⟨Nat.le_refl 1, rfl, rfl⟩ ?_
            (conv => whnf)
            refine AppN.grow 2 (optsC (grownA (l.take i) 0)) (optC (grownG i n)) rfl (by rw [hG]; rfl) ⟨Nat.le_refl 1, ⟨by show (i + 1) * 56 ≤ _; omega, by show i + 1 < _; omega⟩, by show 5 ≠ 0; omega⟩ fun b1 c1 h11 h12 => ?_
            (first | refine wX ?_ | exact wZ)
            refine ⟨⟨i + 1, some b1, c1⟩, ⟨⟨by omega, by omega⟩, (fun h => by cases h), h11⟩, by show l.length - (i + 1) < l.length - i; omega, ?_, ⟨wkE_refl _, wkE_refl _, .inl ⟨rfl, rfl, by rw [hsn, optsC_snoc], rfl, rfl, rfl⟩, wkH_nil _⟩⟩
            (repeat' (first | exact trivial | refine And.intro (by with_reducible rfl) ?_ | (with_reducible exact wkC_refl _) | (with_reducible exact wkCs_refl _) | refine And.intro ?_ ?_))
            all_goals first | rfl | exact av_int (by rw [wrap_i64 (by omega)]; omega)
        · (first | refine wX ?_ | exact wZ)
          refine brd_eq (fun h8 => ?_) (fun h8 => ?_)
          · -- 0: the short, show decide (0 < ((U / 48 % 3 : Nat) : Int)) = false by simp; omega: why it is, simp; omega: that the kind is one of the two
            (first | refine wX ?_ | exact wZ)
            rw [q144, m144]
            refine brd_eq (fun h9 => ?_) (fun h9 => ?_)
            · (first | refine wX ?_ | exact wZ)
              -- the option is put behind the others; 0: its short, dfltG: its default, rw [show decide (0 < ((U / 48 % 3 : Nat) : Int)) = false by simp; omega, show (((U % 6 : Nat) : Int) == 1 || ((U % 6 : Nat) : Int) == 2) = true by simp; omega, show (((U / 144 % 2 : Nat) : Int) == 1) = true by simp; omega]; rfl: why
              have hG : grownG i n = ⟨nameG i, 0, ((U % 6 : Nat) : Int), dfltG, (((U / 6 % 8 : Nat) : Int) == 1)⟩ := by
                rw [hGn]
                rw [show decide (0 < ((U / 48 % 3 : Nat) : Int)) = false by simp; omega, show (((U % 6 : Nat) : Int) == 1 || ((U % 6 : Nat) : Int) == 2) = true by simp; omega, show (((U / 144 % 2 : Nat) : Int) == 1) = true by simp; omega]; rfl
              (first | refine wX ?_ | exact wZ)
              try refine Nd.mk ⟨Nat.le_refl 1, rfl, rfl⟩ ?_
              (conv => whnf)
              refine AppN.grow 2 (optsC (grownA (l.take i) 0)) (optC (grownG i n)) rfl (by rw [hG]; rfl) ⟨Nat.le_refl 1, ⟨by show (i + 1) * 56 ≤ _; omega, by show i + 1 < _; omega⟩, by show 5 ≠ 0; omega⟩ fun b1 c1 h11 h12 => ?_
              (first | refine wX ?_ | exact wZ)
              refine ⟨⟨i + 1, some b1, c1⟩, ⟨⟨by omega, by omega⟩, (fun h => by cases h), h11⟩, by show l.length - (i + 1) < l.length - i; omega, ?_, ⟨wkE_refl _, wkE_refl _, .inl ⟨rfl, rfl, by rw [hsn, optsC_snoc], rfl, rfl, rfl⟩, wkH_nil _⟩⟩
              (repeat' (first | exact trivial | refine And.intro (by with_reducible rfl) ?_ | (with_reducible exact wkC_refl _) | (with_reducible exact wkCs_refl _) | refine And.intro ?_ ?_))
              all_goals first | rfl | exact av_int (by rw [wrap_i64 (by omega)]; omega)
            · -- the option is put behind the others; 0: its short, []: its default, rw [show decide (0 < ((U / 48 % 3 : Nat) : Int)) = false by simp; omega, show (((U / 144 % 2 : Nat) : Int) == 1) = false by simp; omega, Bool.and_false]; rfl: why
              have hG : grownG i n = ⟨nameG i, 0, ((U % 6 : Nat) : Int), [], (((U / 6 % 8 : Nat) : Int) == 1)⟩ := by
                rw [hGn]
                rw [show decide (0 < ((U / 48 % 3 : Nat) : Int)) = false by simp; omega, show (((U / 144 % 2 : Nat) : Int) == 1) = false by simp; omega, Bool.and_false]; rfl
              (first | refine wX ?_ | exact wZ)
              try refine Nd.mk ⟨Nat.le_refl 1, rfl, rfl⟩ ?_
              (conv => whnf)
              refine AppN.grow 2 (optsC (grownA (l.take i) 0)) (optC (grownG i n)) rfl (by rw [hG]; rfl) ⟨Nat.le_refl 1, ⟨by show (i + 1) * 56 ≤ _; omega, by show i + 1 < _; omega⟩, by show 5 ≠ 0; omega⟩ fun b1 c1 h11 h12 => ?_
              (first | refine wX ?_ | exact wZ)
              refine ⟨⟨i + 1, some b1, c1⟩, ⟨⟨by omega, by omega⟩, (fun h => by cases h), h11⟩, by show l.length - (i + 1) < l.length - i; omega, ?_, ⟨wkE_refl _, wkE_refl _, .inl ⟨rfl, rfl, by rw [hsn, optsC_snoc], rfl, rfl, rfl⟩, wkH_nil _⟩⟩
              (repeat' (first | exact trivial | refine And.intro (by with_reducible rfl) ?_ | (with_reducible exact wkC_refl _) | (with_reducible exact wkCs_refl _) | refine And.intro ?_ ?_))
              all_goals first | rfl | exact av_int (by rw [wrap_i64 (by omega)]; omega)
          · -- the option is put behind the others; 0: its short, []: its default, rw [show decide (0 < ((U / 48 % 3 : Nat) : Int)) = false by simp; omega, show (((U % 6 : Nat) : Int) == 1 || ((U % 6 : Nat) : Int) == 2) = false by simp; omega, Bool.false_and]; rfl: why
            have hG : grownG i n = ⟨nameG i, 0, ((U % 6 : Nat) : Int), [], (((U / 6 % 8 : Nat) : Int) == 1)⟩ := by
              rw [hGn]
              rw [show decide (0 < ((U / 48 % 3 : Nat) : Int)) = false by simp; omega, show (((U % 6 : Nat) : Int) == 1 || ((U % 6 : Nat) : Int) == 2) = false by simp; omega, Bool.false_and]; rfl
            (first | refine wX ?_ | exact wZ)
            try refine Nd.mk ⟨Nat.le_refl 1, rfl, rfl⟩ ?_
            (conv => whnf)
            refine AppN.grow 2 (optsC (grownA (l.take i) 0)) (optC (grownG i n)) rfl (by rw [hG]; rfl) ⟨Nat.le_refl 1, ⟨by show (i + 1) * 56 ≤ _; omega, by show i + 1 < _; omega⟩, by show 5 ≠ 0; omega⟩ fun b1 c1 h11 h12 => ?_
            (first | refine wX ?_ | exact wZ)
            refine ⟨⟨i + 1, some b1, c1⟩, ⟨⟨by omega, by omega⟩, (fun h => by cases h), h11⟩, by show l.length - (i + 1) < l.length - i; omega, ?_, ⟨wkE_refl _, wkE_refl _, .inl ⟨rfl, rfl, by rw [hsn, optsC_snoc], rfl, rfl, rfl⟩, wkH_nil _⟩⟩
            (repeat' (first | exact trivial | refine And.intro (by with_reducible rfl) ?_ | (with_reducible exact wkC_refl _) | (with_reducible exact wkCs_refl _) | refine And.intro ?_ ?_))
            all_goals first | rfl | exact av_int (by rw [wrap_i64 (by omega)]; omega)
    · obtain ⟨e1, e2⟩ := hfin (.inr (by omega))
      ((conv => whnf); (repeat ((first | refine BoxN.own ?_ | refine VrN.norm (wrap_i64 (by omega)) ?_ | refine VrN.keep ?_ | refine DrawN.calm (by decide +kernel) ?_ | refine Nd.mk (by decide +kernel) ?_ | refine Nd.mk (by omega) ?_ | (refine Nd.mk ?_ ?_; focus ((repeat' (first | exact trivial | exact wkE_refl _ | refine And.intro ?_ ?_)); done)) | refine RdN.intro _ rfl (by rfl) ?_); (conv => whnf))))
      refine fin_p (SlAt (at0 ob) (i * 5) (optsC (grownA (l.take i) 0))) ⟨ob, cap, by rw [e2], fun h => (by rw [hob h] at e2; exact List.eq_nil_of_length_eq_zero e2), by rw [e2]; exact hic, fun w hw => by rw [e1, ← e2] at hw; exact e2 ▸ hw⟩ fun w hw => hw.2.2.1
  · obtain ⟨e1, e2⟩ := hfin (.inl (by omega))
    ((conv => whnf); (repeat ((first | refine BoxN.own ?_ | refine VrN.norm (wrap_i64 (by omega)) ?_ | refine VrN.keep ?_ | refine DrawN.calm (by decide +kernel) ?_ | refine Nd.mk (by decide +kernel) ?_ | refine Nd.mk (by omega) ?_ | (refine Nd.mk ?_ ?_; focus ((repeat' (first | exact trivial | exact wkE_refl _ | refine And.intro ?_ ?_)); done)) | refine RdN.intro _ rfl (by rfl) ?_); (conv => whnf))))
    refine fin_p (SlAt (at0 ob) (i * 5) (optsC (grownA (l.take i) 0))) ⟨ob, cap, by rw [e2], fun h => (by rw [hob h] at e2; exact List.eq_nil_of_length_eq_zero e2), by rw [e2]; exact hic, fun w hw => by rw [e1, ← e2] at hw; exact e2 ▸ hw⟩ fun w hw => hw.2.2.1
end Go.Proofs.YteljlkkppaobeaaDoor

/-
  AX, twenty-seventh text: arguments that are slices of structs.
-/
namespace Go.AX
open Go.ChangeShapes Go.WideShapes Go.ChangeAt Go.RowKit

theorem choose_list {α : Type} {R : Nat → α → Prop} : ∀ n, (∀ i, i < n → ∃ x, R i x) → ∃ l : List α, l.length = n ∧ ∀ i x, l[i]? = some x → R i x
  | 0, _ => ⟨[], rfl, fun i x h => by simp at h⟩
  | n + 1, h => by
    obtain ⟨l, hl, hR⟩ := choose_list n fun i hi => h i (by omega)
    obtain ⟨x, hx⟩ := h n (by omega)
    refine ⟨l ++ [x], by simp [hl], fun i y hy => ?_⟩
    by_cases hi : i < l.length
    · rw [List.getElem?_append_left hi] at hy
      exact hR i y hy
    · have hlt := (List.getElem?_eq_some_iff.1 hy).1
      simp only [List.length_append, List.length_cons, List.length_nil] at hlt
      have e : i = l.length := by omega
      subst e
      simp at hy
      subst hy
      rw [hl]; exact hx
section
variable {H : Type} {enc : TypeId × Value → H} {P : Program} {w : World}
theorem weights_all {e : TypeId} : ∀ {l : List (DataW H)} {d : DataW H}, d ∈ l → ∀ k ∈ d.weights P e, k ∈ DataW.weightsAll P e l
  | [], _, h, _, _ => by cases h
  | a :: l, d, h, k, hk => by
    rw [DataW.weightsAll, List.mem_append]
    rcases List.mem_cons.1 h with rfl | h
    · exact .inl hk
    · exact .inr (weights_all h k hk)
end
end Go.AX

/-
  AX, thirty-seventh text: slices that stand in the cells of a slice's structs.
-/
namespace Go.AX
open Go.ChangeShapes Go.WideShapes Go.ChangeAt Go.RowKit
section
variable {H : Type} {enc : TypeId × Value → H} {P : Program} {w : World}
/-- A slice in a cell, as it is read: g lays an item out, Q is what the reading says of it. -/
theorem rows_in {α : Type} {Q : α → Prop} {m : Nat} (g : α → List Value) (hg : ∀ x, (g x).length = m) {t e : TypeId} {fuel : Nat} {cs : List Value} {y : DataW H × List MemPlace} (ht : P.underlying t = some (.slice e)) (hc : P.cellsOf e = m) (hb : 1 ≤ P.bytesOf e)
    (hread : ∀ n cs (y : DataW H × List MemPlace), DataW.trod enc P w 0 (fun _ => true) true n e cs = some y → (∀ k ∈ y.1.weights P e, k ≤ reachBytes) → ∃ x, Q x ∧ cs = g x)
    (h : DataW.trod enc P w 0 (fun _ => true) true fuel t cs = some y) (hwt : ∀ k ∈ y.1.weights P t, k ≤ reachBytes) :
    ∃ (a : Option Addr) (l : List α) (cap : Nat), cs = [.slice a l.length cap] ∧ l.length ≤ 200000000000000 ∧ SlAt a (l.length * m) (l.flatMap g) w ∧ (a = none → l = []) ∧ ∀ x ∈ l, Q x := by
  rcases DataW.trod_slice ht h with ⟨h1, h2⟩ | ⟨a, len, cap, elems, rest, n, _, h1, h2, _, _, _, hlen, hel, _⟩
  · refine ⟨none, [], 0, by simpa using h1, by simp, ?_, fun _ => rfl, by simp⟩
    rw [List.length_nil, Nat.zero_mul]
    exact SlAt.nil
  · rw [h2] at hwt
    have hall : ∀ k ∈ (DataW.slice (elems.map (·.1)) (rest.map (·.1))).weights P t, k ≤ reachBytes := hwt
    have hs : (elems.length + rest.length) * P.bytesOf e ≤ reachBytes := by
      have := hall ((elems.length + rest.length) * P.bytesOf e) (by simp [DataW.weights, ht])
      exact this
    have hr : reachBytes < 200000000000000 := by decide
    have hb' : len ≤ reachBytes := by
      rw [hlen] at hs
      exact Nat.le_trans (Nat.le_trans (Nat.le_add_right _ _) (Nat.le_mul_of_pos_right _ hb)) hs
    have hx : ∀ i, i < len → ∃ x, Q x ∧ ∀ q, q < m → w.cell? (a.add (i * m + q)) = (g x)[q]? := fun i hi => by
      have hi2 := hel i hi
      rw [hc, List.getElem?_eq_getElem (by omega)] at hi2
      obtain ⟨cs, hcs, hy⟩ := Option.bind_eq_some_iff.1 hi2
      obtain ⟨x, hQ, rfl⟩ := hread n cs _ hy fun k hk => by
        refine hall k ?_
        simp only [DataW.weights, ht, List.mem_cons, List.mem_append]
        exact .inr (.inl (weights_all (List.mem_map.2 ⟨_, List.getElem_mem _, rfl⟩) k hk))
      refine ⟨x, hQ, fun q hq => ?_⟩
      obtain ⟨_, _, hcell⟩ := World.cells?_some hcs
      have := hcell q hq
      rwa [Addr.add_add] at this
    obtain ⟨l, hl, hR⟩ := choose_list len hx
    refine ⟨some a, l, cap, by rw [hl]; exact h1, by omega, ?_, (fun h => by cases h), fun x hx => ?_⟩
    · refine ⟨flat_len hg l, fun _ => rfl, fun q hq => ?_⟩
      have hm : 0 < m := Nat.pos_of_ne_zero fun e => by rw [e] at hq; simp at hq
      have hq2 : q = q / m * m + q % m := by rw [Nat.mul_comm]; exact (Nat.div_add_mod q m).symm
      have hqi : q / m < l.length := Nat.div_lt_of_lt_mul (by rw [Nat.mul_comm]; exact hq)
      have hqm := Nat.mod_lt q hm
      show w.cell? (a.add q) = _
      rw [hq2, flat_get hg l _ _ hqm, List.getElem?_eq_getElem hqi]
      exact (hR _ _ (List.getElem?_eq_getElem hqi)).2 _ hqm
    · obtain ⟨i, hi⟩ := List.getElem?_of_mem hx
      exact (hR i x hi).1
end
/-- Facts of all of a list. -/
theorem Imm.all {α : Type} {S : Nat → Prop} {w : World} {l : List α} {F : α → World → Prop} (h : ∀ x ∈ l, Imm S w (F x)) : Imm S w fun w => ∀ x ∈ l, F x w :=
  ⟨fun x hx => (h x hx).1, fun w' hw x hx => (h x hx).2 w' hw⟩
end Go.AX

/-
  Contracts: options for the program; texts that are compared; the chapter's example.
-/
namespace Go.Proofs.YteljlkkppaobeaaDoor
open Go.AX Go.RowKit Go.Opts
set_option maxRecDepth 20000

set_option maxHeartbeats 1000000 in
theorem back_c (ob : Option Nat) (c : Nat) (l : List Opt) (ha : ob = none → l = []) (hl : l.length ≤ 100000) : SpecF Tryd.prog 8 [.slice (at0 ob) l.length c] (SlAt (at0 ob) (l.length * 5) (optsC l)) (OptsR l) := by
  refine specF hm Tryd.func8 (by kernel_rfl) rfl rfl ?_
  (first | refine wX ?_ | exact wZ)
  refine LoopN.intro (Nat × Option Nat × Nat) (fun ⟨i, o2, cap⟩ => i ≤ l.length ∧ (o2 = none → i = 0) ∧ i ≤ cap) (fun ⟨i, o2, cap⟩ => mkS Tryd.f8.ntmps 0 [(0, .c (.v (.slice (at0 ob) l.length c))), (3, .c (.v (.slice (at0 o2) i cap))), (4, .c (.v (.int .i64 (i : Int))))])
    (fun ⟨i, o2, cap⟩ => [.fact (SlAt (at0 ob) (l.length * 5) (optsC l)), .app 47 5 (optsC (l.take i)) (at0 o2) i cap]) (fun ⟨i, _, _⟩ => l.length - i) [.app 0 0 [] none 0 0] rfl (fun _ => rfl) (fun _ => rfl) (fun _ _ => okHB_eq rfl)
    ⟨⟨0, none, 0⟩, ⟨Nat.zero_le _, fun _ => rfl, Nat.le_refl _⟩, ?_, ⟨wkE_refl _, wkE_nil, wkH_nil _⟩⟩ ?_
  · (repeat' (first | exact trivial | refine And.intro (by with_reducible rfl) ?_ | (with_reducible exact wkC_refl _) | (with_reducible exact wkCs_refl _) | refine And.intro ?_ ?_))
    all_goals rfl
  rintro ⟨i, o2, cap⟩ ⟨hi, hob, hic⟩
  (first | refine wX ?_ | exact wZ)
  refine brd_dec (fun h1 => ?_) (fun h1 => ?_)
  · obtain ⟨o, ho⟩ : ∃ o, l[i]? = some o := ⟨_, List.getElem?_eq_getElem (by omega)⟩
    have hsa : (at0 ob).isSome = true := by
      cases ob with
      | none => rw [ha rfl] at ho; cases ho
      | some b => rfl
    have hf : ∀ j, j < 5 → (optsC l)[(i : Int).toNat * 5 + j]? = (optC o)[j]? := fun j hj => by
      rw [Int.toNat_natCast]
      exact optsC_get l i j hj ho
    (first | refine wX ?_ | exact wZ)
    refine DrawN.plan [0, 1, 2, 6, 7, 11, 12, 16, 17, 21, 22] [(3, 1), (4, 1), (5, 1), (8, 1), (9, 1), (10, 1), (13, 1), (14, 1), (15, 1), (18, 1), (19, 1), (20, 1), (23, 1), (24, 1), (25, 1), (26, 1), (27, 0)] [(28, 0), (29, 0)] (by decide +kernel) ?_
    (first | refine wX ?_ | exact wZ)
    refine Nd.mk ⟨hsa, by omega, by omega⟩ ?_
    (first | refine wX ?_ | exact wZ)
    refine LdN.fld (.string (bs o.name)) rfl (fun w hw => hw.1) (hf 0 (by decide)) ?_
    (first | refine wX ?_ | exact wZ)
    refine Nd.mk ⟨hsa, by omega, by omega⟩ ?_
    (first | refine wX ?_ | exact wZ)
    refine LdN.fld (.int .u8 (o.short.toNat : Int)) rfl (fun w hw => hw.1) (hf 1 (by decide)) ?_
    (first | refine wX ?_ | exact wZ)
    refine Nd.mk ⟨hsa, by omega, by omega⟩ ?_
    (first | refine wX ?_ | exact wZ)
    refine LdN.fld (.int .i64 o.kind) rfl (fun w hw => hw.1) (hf 2 (by decide)) ?_
    (first | refine wX ?_ | exact wZ)
    refine Nd.mk ⟨hsa, by omega, by omega⟩ ?_
    (first | refine wX ?_ | exact wZ)
    refine LdN.fld (.string (bs o.dflt)) rfl (fun w hw => hw.1) (hf 3 (by decide)) ?_
    (first | refine wX ?_ | exact wZ)
    refine Nd.mk ⟨hsa, by omega, by omega⟩ ?_
    (first | refine wX ?_ | exact wZ)
    refine LdN.fld (.bool o.must) rfl (fun w hw => hw.1) (hf 4 (by decide)) ?_
    (first | refine wX ?_ | exact wZ)
    try refine Nd.mk ⟨Nat.le_refl 1, rfl, rfl⟩ ?_
    (conv => whnf)
    refine AppN.grow 1 (optsC (l.take i)) (optC o) rfl rfl ⟨Nat.le_refl 1, ⟨by show (i + 1) * 56 ≤ _; omega, by show i + 1 < _; omega⟩, by show 5 ≠ 0; omega⟩ fun b1 c1 h11 h12 => ?_
    (first | refine wX ?_ | exact wZ)
    refine ⟨⟨i + 1, some b1, c1⟩, ⟨by omega, (fun h => by cases h), h11⟩, by show l.length - (i + 1) < l.length - i; omega, ?_, ⟨wkE_refl _, .inl ⟨rfl, rfl, by rw [List.take_add_one, ho, optsC_snoc]; rfl, rfl, rfl, rfl⟩, wkH_nil _⟩⟩
    (repeat' (first | exact trivial | refine And.intro (by with_reducible rfl) ?_ | (with_reducible exact wkC_refl _) | (with_reducible exact wkCs_refl _) | refine And.intro ?_ ?_))
    all_goals first | rfl | exact av_int (by rw [wrap_i64 (by omega)]; omega)
  · have hin : i = l.length := by omega
    subst hin
    rw [List.take_length]
    (first | refine wX ?_ | exact wZ)
    exact fin_p (SlAt (at0 o2) (l.length * 5) (optsC l)) ⟨o2, cap, rfl, fun h => List.eq_nil_of_length_eq_zero (hob h), hic, fun w hw => hw⟩ fun w hw => hw.2.1
theorem texts_c (a b : Option Addr) (l m : List (List UInt8)) (ca cb : Nat) (ha : a = none → l = []) (hb : b = none → m = []) (hl : l.length ≤ 200000000000000) (_hm : m.length ≤ 200000000000000) :
    ∀ H, (∀ w, Facts H w → SlAt a (l.length * 1) (strC l) w ∧ SlAt b (m.length * 1) (strC m) w) → SpecH Tryd.prog 16 (pvs [.slice a l.length ca, .slice b m.length cb]) H (Ret (.bool (decide (l = m))) H) := by
  refine factC hm Tryd.func16 (by kernel_rfl) rfl rfl ?_
  (first | refine wX ?_ | exact wZ)
  refine brd_ne (fun h0 => ?_) (fun h0 => ?_)
  · (first | refine wX ?_ | exact wZ)
    exact out_bool (decide_eq_false (fun h => h0 (by rw [h]))).symm
  have hlm : l.length = m.length := by omega
  (first | refine wX ?_ | exact wZ)
  refine loopS Nat (fun i => i ≤ l.length ∧ l.take i = m.take i) (fun i => mkS Tryd.f16.ntmps 0 [(0, .c (.v (.slice a l.length ca))), (1, .c (.v (.slice b m.length cb))), (5, .c (.v (.int .i64 (i : Int))))]) (fun i => l.length - i) rfl (fun _ => rfl) 0 ⟨Nat.zero_le _, rfl⟩ ?_ ?_
  · (repeat' (first | exact trivial | refine And.intro (by with_reducible rfl) ?_ | (with_reducible exact wkC_refl _) | (with_reducible exact wkCs_refl _) | refine And.intro ?_ ?_))
    all_goals rfl
  intro i ⟨hi, heq⟩
  (first | refine wX ?_ | exact wZ)
  refine brd_dec (fun h1 => ?_) (fun h1 => ?_)
  · obtain ⟨p, hp⟩ : ∃ p, l[i]? = some p := ⟨_, List.getElem?_eq_getElem (by omega)⟩
    obtain ⟨q, hq⟩ : ∃ q, m[i]? = some q := ⟨_, List.getElem?_eq_getElem (by omega)⟩
    have hsa : a.isSome = true := by
      cases a with
      | none => rw [ha rfl] at hp; cases hp
      | some b => rfl
    have hsb : b.isSome = true := by
      cases b with
      | none => rw [hb rfl] at hq; cases hq
      | some b => rfl
    (first | refine wX ?_ | exact wZ)
    refine Nd.mk ⟨hsa, by omega, by omega⟩ ?_
    (first | refine wX ?_ | exact wZ)
    refine LdN.one (.string (bs p)) rfl (fun w hw => hw.1.1) (by rw [Int.toNat_natCast]; show (strC l)[i * 1]? = _; rw [Nat.mul_one]; exact strC_get hp) ?_
    (first | refine wX ?_ | exact wZ)
    refine Nd.mk ⟨hsb, by omega, by omega⟩ ?_
    (first | refine wX ?_ | exact wZ)
    refine LdN.one (.string (bs q)) rfl (fun w hw => hw.1.2) (by rw [Int.toNat_natCast]; show (strC m)[i * 1]? = _; rw [Nat.mul_one]; exact strC_get hq) ?_
    (first | refine wX ?_ | exact wZ)
    rw [name_eq]
    cases hpq : p == q with
    | true =>
      have e : p = q := eq_of_beq hpq
      (first | refine wX ?_ | exact wZ)
      refine ⟨i + 1, ⟨by omega, by rw [List.take_add_one, List.take_add_one, heq, hp, hq, e]⟩, by omega, ?_, by (repeat' (first | exact trivial | exact wkE_refl _ | refine And.intro ?_ ?_))⟩
      (repeat' (first | exact trivial | refine And.intro (by with_reducible rfl) ?_ | (with_reducible exact wkC_refl _) | (with_reducible exact wkCs_refl _) | refine And.intro ?_ ?_))
      all_goals first | rfl | exact av_int (by rw [wrap_i64 (by omega)]; omega)
    | false =>
      (first | refine wX ?_ | exact wZ)
      refine out_bool (decide_eq_false (fun h => ?_)).symm
      rw [h, hq] at hp
      rw [Option.some.inj hp] at hpq
      simp at hpq
  · have hin : i = l.length := by omega
    subst hin
    rw [List.take_length, hlm, List.take_length] at heq
    (first | refine wX ?_ | exact wZ)
    exact out_bool (decide_eq_true heq).symm
theorem vl_none {v : VL} {w : World} (h : VlF v w) (hn : at0 v.a = none) : v.xs = [] := by
  rcases Nat.eq_zero_or_pos (v.xs.length * 1) with h0 | h0
  · exact List.eq_nil_of_length_eq_zero (by omega)
  · have := h.2.1 h0
    rw [hn] at this
    cases this
def saneL : List Opt := [⟨nameG 0, 118, 3, [], false⟩, ⟨nameG 1, 111, 1, [], false⟩]
def saneW : List (List UInt8) := [[45, 118, 118, 111], [120], [121]]
theorem sane_parse : (parseS saneL saneW false).2 = (0, 0) ∧ (parseS saneL saneW false).1.given = [2, 1] ∧ (parseS saneL saneW false).1.vals 1 = [[120]] ∧ (parseS saneL saneW false).1.left = [[121]] := by decide +kernel
set_option maxHeartbeats 1000000 in
theorem sane_c : ∀ H, (∀ w, Facts H w → MaxF w) → SpecH Tryd.prog 7 (pvs []) H (Ret (.bool true) H) := by
  refine factC hm Tryd.func7 (by kernel_rfl) rfl rfl ?_
  (first | refine wX ?_ | exact wZ)
  refine SpecH.freeze (callOk Tryd.func11 (by kernel_rfl) rfl) 1 rfl rfl fun lb lc hlc => ?_
  refine SpecH.freeze (callOk Tryd.func11 (by kernel_rfl) rfl) 2 rfl rfl fun wb wc hwc => ?_
  refine SpecH.plain rfl ?_
  refine SpecF.call (Parse_c (some lb) lc saneL (some ⟨wb, 0, none⟩) wc saneW (fun h => by cases h) hlc (by decide) (by decide) (fun h => by cases h) hwc (by decide)) (fun w hw => ⟨RowF.sl hw.2.1, RowF.sl hw.2.2.1, hw.1⟩) fun v G hR => ?_
  obtain ⟨p1, p2, p3, p4⟩ := sane_parse
  generalize parseS saneL saneW false = p at *
  obtain ⟨s1, at1, e1⟩ := p
  obtain ⟨rfl, rfl⟩ := Prod.mk.inj p1
  rcases hR with ⟨h, _⟩ | ⟨_, vb, gb, v, left, rfl, hv, hln, hgl, hG⟩
  · exact absurd rfl h
  simp only at hv hln hgl p2 p3 p4
  rw [p4] at hln
  (first | refine wX ?_ | exact wZ)
  refine Nd.mk ⟨rfl, by decide, by decide⟩ ?_
  (first | refine wX ?_ | exact wZ)
  refine LdN.one (.int .i64 2) rfl (fun w hw => (hG w hw.2.2.2.1).2.1) (by rw [p2]; rfl) ?_
  (first | refine wX ?_ | exact wZ)
  refine Nd.mk ⟨rfl, by decide, by decide⟩ ?_
  (first | refine wX ?_ | exact wZ)
  refine LdN.one (vlV (v 1)) rfl (fun w hw => (hG w hw.2.2.2.1).1) rfl ?_
  (first | refine wX ?_ | exact wZ)
  have hv1 : (v 1).xs = [[120]] := (hv 1).trans p3
  refine SpecH.freeze (callOk Tryd.func16 (by kernel_rfl) rfl) 5 rfl rfl fun xb xc hxc => ?_
  refine SpecH.plain rfl ?_
  refine SpecH.know (callOk Tryd.func16 (by kernel_rfl) rfl) (at0 (v 1).a = none → (v 1).xs = []) (fun w hw h => vl_none ((hG w hw.2.2.2.1).2.2.2 1 (by decide)) h) fun hn1 => ?_
  refine call1 (texts_c (at0 (v 1).a) (some ⟨xb, 0, none⟩) (v 1).xs [[120]] (v 1).c xc hn1 (fun h => by cases h) (by rw [hv1]; decide) (by decide) _ (fun w hw => ⟨(hG w hw.2.2.2.1).2.2.2 1 (by decide), RowF.sl hw.2.2.2.2.1⟩)) ?_
  rw [decide_eq_true hv1]
  (first | refine wX ?_ | exact wZ)
  refine SpecH.freeze (callOk Tryd.func16 (by kernel_rfl) rfl) 6 rfl rfl fun yb yc hyc => ?_
  refine SpecH.plain rfl ?_
  refine SpecH.know (callOk Tryd.func16 (by kernel_rfl) rfl) (at0 left.a = none → left.xs = []) (fun w hw h => vl_none ((hG w hw.2.2.2.1).2.2.1) h) fun hn2 => ?_
  refine call1 (texts_c (at0 left.a) (some ⟨yb, 0, none⟩) left.xs [[121]] left.c yc hn2 (fun h => by cases h) (by rw [hln]; decide) (by decide) _ (fun w hw => ⟨(hG w hw.2.2.2.1).2.2.1, RowF.sl hw.2.2.2.2.2.1⟩)) ?_
  rw [decide_eq_true hln]
  (first | refine wX ?_ | exact wZ)
end Go.Proofs.YteljlkkppaobeaaDoor

/-
  What the rows list; what every call knows.
-/
namespace Go.Proofs.YteljlkkppaobeaaDoor
open Go.ChangeShapes Go.WideShapes Go.ChangeAt Go.RowKit Go.AX
set_option maxRecDepth 100000

/-- What the rows list. -/
def laid3 : List (String × DataW Unit) := [("unicode/utf8.acceptRanges", Rows.laid_unicode_utf8_acceptRanges), ("unicode.CaseRanges", Rows.laid_unicode_CaseRanges), ("unicode/utf8.first", Rows.laid_unicode_utf8_first)]
theorem door_met (os : Os) (args : Array Value) : laidMetH Tryd.prog laid3 ((World.laidAll Tryd.prog os laid3).forCall (fun _ _ => 0) ⟨#[], args, []⟩).memory := by
  rw [MakeChecks.laidMetH_plain _ _ _ (by kernel_rfl)]; exact laidMet_laidAll _ (by kernel_rfl) (by kernel_rfl)
end Go.Proofs.YteljlkkppaobeaaDoor

/-
  Contracts: long words; OptsWords (law).
-/
namespace Go.Proofs.YteljlkkppaobeaaDoor
open Go.AX Go.RowKit Go.Opts
set_option maxRecDepth 20000

/-- How long words are (law): to be cut off at 4000. -/
def sumL (l : List (List UInt8)) : Nat := l.length + (l.map List.length).sum
theorem sumL_take {l : List (List UInt8)} {i : Nat} {w : List UInt8} (h : l[i]? = some w) : ((l.take (i + 1)).map List.length).sum = ((l.take i).map List.length).sum + w.length := by
  rw [List.take_add_one, h, List.map_append, List.sum_append]
  simp
theorem sum_take_le : ∀ (l : List Nat) (i : Nat), (l.take i).sum ≤ l.sum
  | [], i => by simp
  | x :: l, 0 => by simp
  | x :: l, i + 1 => by
    have := sum_take_le l i
    simp only [List.take_succ_cons, List.sum_cons]
    omega
theorem mem_sum : ∀ {l : List Nat} {x : Nat}, x ∈ l → x ≤ l.sum
  | y :: l, x, h => by
    rw [List.sum_cons]
    rcases List.mem_cons.1 h with rfl | h
    · omega
    · have := mem_sum h
      omega
/-- What long answers. -/
def longB (l : List (List UInt8)) : Bool := decide (4000 ≤ sumL l)
set_option maxHeartbeats 1000000 in
theorem longw_c (a : Option Addr) (c : Nat) (l : List (List UInt8)) (ha : a = none → l = []) (hl : l.length ≤ 200000000000000) (hw1 : ∀ w ∈ l, w.length ≤ 200000000000000) : ∀ H, (∀ w, Facts H w → SlAt a (l.length * 1) (strC l) w) → SpecH Tryd.prog 6 (pvs [.slice a l.length c]) H (Ret (.bool (longB l)) H) := by
  refine factC hm Tryd.func6 (by kernel_rfl) rfl rfl ?_
  (first | refine wX ?_ | exact wZ)
  refine loopS (Nat × Nat) (fun ⟨i, n⟩ => i ≤ l.length ∧ n = l.length + ((l.take i).map List.length).sum ∧ n ≤ 400000000000000) (fun ⟨i, n⟩ => mkS Tryd.f6.ntmps 0 [(0, .c (.v (.slice a l.length c))), (2, .c (.v (.bool false))), (3, .c (.v (.int .i64 (n : Int)))), (4, .c (.v (.int .i64 (i : Int))))]) (fun ⟨i, _⟩ => l.length - i) rfl (fun _ => rfl) (0, l.length) ⟨Nat.zero_le _, by simp, by omega⟩ ?_ ?_
  · (repeat' (first | exact trivial | refine And.intro (by with_reducible rfl) ?_ | (with_reducible exact wkC_refl _) | (with_reducible exact wkCs_refl _) | refine And.intro ?_ ?_))
    all_goals rfl
  rintro ⟨i, n⟩ ⟨hi, hn, hnb⟩
  (first | refine wX ?_ | exact wZ)
  have hend : ∀ b : Bool, (n < 4000 → i = l.length) → b = decide ((4000 : Int) ≤ n) → b = longB l := fun b h1 h2 => by
    have h3 := sum_take_le (l.map List.length) i
    rw [← List.map_take] at h3
    rw [h2]
    unfold longB sumL
    by_cases h4 : n < 4000
    · rw [h1 h4, List.take_length] at hn
      exact decide_eq_decide.2 (by omega)
    · exact decide_eq_decide.2 (by omega)
  refine brd_dec (fun h1 => ?_) (fun h1 => ?_)
  · (first | refine wX ?_ | exact wZ)
    refine brd_dec (fun h2 => ?_) (fun h2 => ?_)
    · obtain ⟨w0, hw0⟩ : ∃ w, l[i]? = some w := ⟨_, List.getElem?_eq_getElem (by omega)⟩
      have hwl := hw1 w0 (List.mem_of_getElem? hw0)
      have hsa : a.isSome = true := by
        cases a with
        | none => rw [ha rfl] at hw0; cases hw0
        | some b => rfl
      have hst := sumL_take hw0
      have hz := bs_size w0
      (first | refine wX ?_ | exact wZ)
      refine Nd.mk ⟨hsa, by omega, by omega⟩ ?_
      (first | refine wX ?_ | exact wZ)
      refine LdN.one (.string (bs w0)) rfl (fun w hw => hw.1) (by rw [Int.toNat_natCast]; show (strC l)[i * 1]? = _; rw [Nat.mul_one]; exact strC_get hw0) ?_
      (first | refine wX ?_ | exact wZ)
      refine ⟨(i + 1, n + w0.length), ⟨by omega, by omega, by omega⟩, by show l.length - (i + 1) < l.length - i; omega, ?_, by (repeat' (first | exact trivial | exact wkE_refl _ | refine And.intro ?_ ?_))⟩
      (repeat' (first | exact trivial | refine And.intro (by with_reducible rfl) ?_ | (with_reducible exact wkC_refl _) | (with_reducible exact wkCs_refl _) | refine And.intro ?_ ?_))
      all_goals first | rfl | exact av_int (by rw [wrap_i64 (by omega)]; omega) | exact av_int (by rw [hz, wrap_i64 (by omega)]; omega) | exact av_int (by rw [hz]; omega)
    · (first | refine wX ?_ | exact wZ)
      exact out_bool (hend _ (fun h => by omega) rfl)
  · (first | refine wX ?_ | exact wZ)
    exact out_bool (hend _ (fun h => by omega) rfl)
theorem longB_lt {l : List (List UInt8)} (h : longB l = false) : l.length < 4000 ∧ (l.map List.length).sum < 4000 ∧ ∀ w ∈ l, w.length < 4000 := by
  unfold longB sumL at h
  have h1 := of_decide_eq_false h
  refine ⟨by omega, by omega, fun w hw => ?_⟩
  have := mem_sum (List.mem_map_of_mem (f := List.length) hw)
  omega
end Go.Proofs.YteljlkkppaobeaaDoor

/-
  Contracts: words for the document's numbers; a result for the document; results that are compared.
-/
namespace Go.Proofs.YteljlkkppaobeaaDoor
open Go.AX Go.RowKit Go.Opts
set_option maxRecDepth 20000

/-- The words that are said. -/
def allS : List (List UInt8) := [[45, 118], [45, 45, 118, 101, 114, 98, 111, 115, 101], [45, 45, 111, 117, 116], [120], [45, 45], [45], [45, 45, 110, 111, 45, 118, 101, 114, 98, 111, 115, 101], [45, 118, 118, 111], [45, 45, 118, 101, 114, 115], [45, 45, 111], [45, 45, 111, 117, 116, 61, 121], [45, 111, 122], [45, 45, 113, 117, 105, 101, 116], [45, 45, 110, 111, 45, 113, 117, 105, 101, 116], [45, 45, 111, 117, 116, 45, 102, 105, 108, 101], [45, 45, 111, 117, 116, 45, 102, 61, 49], [45, 113], [], [45, 45, 102, 105, 108, 101, 45, 110, 97, 109, 101], [97, 32, 98], [45, 49], [45, 45, 110, 49, 61], [45, 45, 118, 101, 114, 98, 61, 49], [45, 86], [45, 45, 110, 111, 45, 113], [45, 102], [45, 45, 111, 50], [45, 113, 120], [45, 45, 118, 101, 114], [45, 79]]
theorem allS_len : ∀ w ∈ allS, w.length ≤ 4000 := by decide
theorem allS_at {k : Nat} (h : k < 30) : ∃ w, allS[k]? = some w ∧ w ∈ allS := ⟨_, List.getElem?_eq_getElem (show k < allS.length from h), List.getElem_mem _⟩
/-- What Said answers. -/
def SaidR (x : Value) (G : World → Prop) : Prop := ∃ (W : List (List UInt8)) (ob : Option Nat) (cap : Nat), x = .slice (at0 ob) W.length cap ∧ (ob = none → W = []) ∧ W.length ≤ cap ∧ W.length ≤ 30 ∧ (∀ w ∈ W, w.length ≤ 4000) ∧ ∀ w, G w → SlAt (at0 ob) (W.length * 1) (strC W) w
set_option maxHeartbeats 1000000 in
theorem Said_c (a : Option Addr) (c : Nat) (l : List Int) (ha : a = none → l = []) (hl : l.length ≤ 200000000000000) : SpecF Tryd.prog 10 [.slice a l.length c] (SlAt a (l.length * 1) (iC l)) SaidR := by
  refine specF hm Tryd.func10 (by kernel_rfl) rfl rfl ?_
  ((conv => whnf); (repeat ((first | refine BoxN.own ?_ | refine VrN.norm (wrap_i64 (by omega)) ?_ | refine VrN.keep ?_ | refine DrawN.calm (by decide +kernel) ?_ | refine Nd.mk (by decide +kernel) ?_ | refine Nd.mk (by omega) ?_ | (refine Nd.mk ?_ ?_; focus ((repeat' (first | exact trivial | exact wkE_refl _ | refine And.intro ?_ ?_)); done)) | refine RdN.intro _ rfl (by rfl) ?_); (conv => whnf))))
  refine RwN.known (strC allS) rfl fun nb => ?_
  ((conv => whnf); (repeat ((first | refine BoxN.own ?_ | refine VrN.norm (wrap_i64 (by omega)) ?_ | refine VrN.keep ?_ | refine DrawN.calm (by decide +kernel) ?_ | refine Nd.mk (by decide +kernel) ?_ | refine Nd.mk (by omega) ?_ | (refine Nd.mk ?_ ?_; focus ((repeat' (first | exact trivial | exact wkE_refl _ | refine And.intro ?_ ?_)); done)) | refine RdN.intro _ rfl (by rfl) ?_); (conv => whnf))))
  refine LoopN.intro (List (List UInt8) × Option Nat × Nat) (fun ⟨W, ob, cap⟩ => (W.length ≤ l.length ∧ W.length ≤ 30) ∧ (ob = none → W = []) ∧ W.length ≤ cap ∧ ∀ w ∈ W, w.length ≤ 4000) (fun ⟨W, ob, cap⟩ => mkS Tryd.f10.ntmps 0 [(0, .c (.v (.slice a l.length c))), (3, .c (.v (.slice (some ⟨nb, 0, none⟩) 30 30))), (4, .c (.v (.slice (at0 ob) W.length cap))), (5, .c (.v (.int .i64 (W.length : Int))))])
    (fun ⟨W, ob, cap⟩ => [.fact (SlAt a (l.length * 1) (iC l)), .app 9 1 (strC allS) (some ⟨nb, 0, none⟩) 30 30, .app 9 1 (strC W) (at0 ob) W.length cap]) (fun ⟨W, _, _⟩ => l.length - W.length) [.app 0 0 [] none 0 0] rfl (fun _ => rfl) (fun _ => rfl) (fun _ _ => okHB_eq rfl)
    ⟨⟨[], none, 0⟩, ⟨⟨Nat.zero_le _, Nat.zero_le _⟩, fun _ => rfl, Nat.le_refl _, fun w hw => by cases hw⟩, ?_, ⟨wkE_refl _, wkE_refl _, wkE_nil, wkH_nil _⟩⟩ ?_
  · (repeat' (first | exact trivial | refine And.intro (by with_reducible rfl) ?_ | (with_reducible exact wkC_refl _) | (with_reducible exact wkCs_refl _) | refine And.intro ?_ ?_))
    all_goals rfl
  rintro ⟨W, ob, cap⟩ ⟨⟨hi, hi30⟩, hob, hic, hw1⟩
  ((conv => whnf); (repeat ((first | refine BoxN.own ?_ | refine VrN.norm (wrap_i64 (by omega)) ?_ | refine VrN.keep ?_ | refine DrawN.calm (by decide +kernel) ?_ | refine Nd.mk (by decide +kernel) ?_ | refine Nd.mk (by omega) ?_ | (refine Nd.mk ?_ ?_; focus ((repeat' (first | exact trivial | exact wkE_refl _ | refine And.intro ?_ ?_)); done)) | refine RdN.intro _ rfl (by rfl) ?_); (conv => whnf))))
  refine brd_dec (fun h1 => ?_) (fun h1 => ?_)
  · ((conv => whnf); (repeat ((first | refine BoxN.own ?_ | refine VrN.norm (wrap_i64 (by omega)) ?_ | refine VrN.keep ?_ | refine DrawN.calm (by decide +kernel) ?_ | refine Nd.mk (by decide +kernel) ?_ | refine Nd.mk (by omega) ?_ | (refine Nd.mk ?_ ?_; focus ((repeat' (first | exact trivial | exact wkE_refl _ | refine And.intro ?_ ?_)); done)) | refine RdN.intro _ rfl (by rfl) ?_); (conv => whnf))))
    refine brd_dec (fun h2 => ?_) (fun h2 => ?_)
    · obtain ⟨n, hn⟩ : ∃ n, l[W.length]? = some n := ⟨_, List.getElem?_eq_getElem (by omega)⟩
      have hsa : a.isSome = true := by
        cases a with
        | none => rw [ha rfl] at hn; cases hn
        | some b => rfl
      obtain ⟨U, hU⟩ : ∃ U : Nat, IntKind.u64.wrap n = (U : Int) := ⟨(IntKind.u64.wrap n).toNat, by have := wrap_u64_bd n; omega⟩
      have e30 : (U : Int).tmod (IntKind.u64.wrap ((30 : Nat) : Int)) = ((U % 30 : Nat) : Int) := by rw [wrap_u64 (by omega)]; exact (Int.ofNat_tmod U 30).symm
      have hk : U % 30 < 30 := Nat.mod_lt _ (by decide)
      obtain ⟨x, hx, hxm⟩ := allS_at hk
      have hx4 := allS_len x hxm
      ((conv => whnf); (repeat ((first | refine BoxN.own ?_ | refine VrN.norm (wrap_i64 (by omega)) ?_ | refine VrN.keep ?_ | refine DrawN.calm (by decide +kernel) ?_ | refine Nd.mk (by decide +kernel) ?_ | refine Nd.mk (by omega) ?_ | (refine Nd.mk ?_ ?_; focus ((repeat' (first | exact trivial | exact wkE_refl _ | refine And.intro ?_ ?_)); done)) | refine RdN.intro _ rfl (by rfl) ?_); (conv => whnf))))
      refine Nd.mk ⟨hsa, by omega, by omega⟩ ?_
      ((conv => whnf); (repeat ((first | refine BoxN.own ?_ | refine VrN.norm (wrap_i64 (by omega)) ?_ | refine VrN.keep ?_ | refine DrawN.calm (by decide +kernel) ?_ | refine Nd.mk (by decide +kernel) ?_ | refine Nd.mk (by omega) ?_ | (refine Nd.mk ?_ ?_; focus ((repeat' (first | exact trivial | exact wkE_refl _ | refine And.intro ?_ ?_)); done)) | refine RdN.intro _ rfl (by rfl) ?_); (conv => whnf))))
      refine LdN.one (.int .i64 n) rfl (fun w hw => hw.1) (by rw [Int.toNat_natCast]; show (iC l)[W.length * 1]? = _; rw [Nat.mul_one]; exact iC_get hn) ?_
      ((conv => whnf); (repeat ((first | refine BoxN.own ?_ | refine VrN.norm (wrap_i64 (by omega)) ?_ | refine VrN.keep ?_ | refine DrawN.calm (by decide +kernel) ?_ | refine Nd.mk (by decide +kernel) ?_ | refine Nd.mk (by omega) ?_ | (refine Nd.mk ?_ ?_; focus ((repeat' (first | exact trivial | exact wkE_refl _ | refine And.intro ?_ ?_)); done)) | refine RdN.intro _ rfl (by rfl) ?_); (conv => whnf))))
      rw [hU, e30]
      refine Nd.mk ⟨rfl, by omega, by omega⟩ ?_
      ((conv => whnf); (repeat ((first | refine BoxN.own ?_ | refine VrN.norm (wrap_i64 (by omega)) ?_ | refine VrN.keep ?_ | refine DrawN.calm (by decide +kernel) ?_ | refine Nd.mk (by decide +kernel) ?_ | refine Nd.mk (by omega) ?_ | (refine Nd.mk ?_ ?_; focus ((repeat' (first | exact trivial | exact wkE_refl _ | refine And.intro ?_ ?_)); done)) | refine RdN.intro _ rfl (by rfl) ?_); (conv => whnf))))
      refine LdN.one (.string (bs x)) rfl (fun w hw => hw.2.1) (by rw [Int.toNat_natCast]; show (strC allS)[U % 30 * 1]? = _; rw [Nat.mul_one]; exact strC_get hx) ?_
      (first | refine wX ?_ | exact wZ)
      try refine Nd.mk ⟨Nat.le_refl 1, rfl, rfl⟩ ?_
      (conv => whnf)
      refine AppN.grow 2 (strC W) [.string (bs x)] rfl rfl ⟨Nat.le_refl 1, ⟨by show (W.length + 1) * 16 ≤ _; omega, by show W.length + 1 < _; omega⟩, Nat.one_ne_zero⟩ fun b1 c1 h11 h12 => ?_
      ((conv => whnf); (repeat ((first | refine BoxN.own ?_ | refine VrN.norm (wrap_i64 (by omega)) ?_ | refine VrN.keep ?_ | refine DrawN.calm (by decide +kernel) ?_ | refine Nd.mk (by decide +kernel) ?_ | refine Nd.mk (by omega) ?_ | (refine Nd.mk ?_ ?_; focus ((repeat' (first | exact trivial | exact wkE_refl _ | refine And.intro ?_ ?_)); done)) | refine RdN.intro _ rfl (by rfl) ?_); (conv => whnf))))
      have hWl : (W ++ [x]).length = W.length + 1 := by simp
      refine ⟨⟨W ++ [x], some b1, c1⟩, ⟨⟨by omega, by omega⟩, (fun h => by cases h), by rw [hWl]; exact h11, fun w hw => by rcases List.mem_append.1 hw with h | h; exact hw1 w h; rw [List.mem_singleton.1 h]; exact hx4⟩, by show l.length - (W ++ [x]).length < l.length - W.length; omega, ?_, ⟨wkE_refl _, wkE_refl _, .inl ⟨rfl, rfl, strC_snoc _ _, rfl, by simp, rfl⟩, wkH_nil _⟩⟩
      (repeat' (first | exact trivial | refine And.intro (by with_reducible rfl) ?_ | (with_reducible exact wkC_refl _) | (with_reducible exact wkCs_refl _) | refine And.intro ?_ ?_))
      all_goals first | rfl | exact av_int (by rw [wrap_i64 (by omega)]; simp) | (simp [at0]; done)
    · ((conv => whnf); (repeat ((first | refine BoxN.own ?_ | refine VrN.norm (wrap_i64 (by omega)) ?_ | refine VrN.keep ?_ | refine DrawN.calm (by decide +kernel) ?_ | refine Nd.mk (by decide +kernel) ?_ | refine Nd.mk (by omega) ?_ | (refine Nd.mk ?_ ?_; focus ((repeat' (first | exact trivial | exact wkE_refl _ | refine And.intro ?_ ?_)); done)) | refine RdN.intro _ rfl (by rfl) ?_); (conv => whnf))))
      exact fin_p (SlAt (at0 ob) (W.length * 1) (strC W)) ⟨W, ob, cap, rfl, hob, hic, hi30, hw1, fun w hw => hw⟩ fun w hw => hw.2.2.1
  · ((conv => whnf); (repeat ((first | refine BoxN.own ?_ | refine VrN.norm (wrap_i64 (by omega)) ?_ | refine VrN.keep ?_ | refine DrawN.calm (by decide +kernel) ?_ | refine Nd.mk (by decide +kernel) ?_ | refine Nd.mk (by omega) ?_ | (refine Nd.mk ?_ ?_; focus ((repeat' (first | exact trivial | exact wkE_refl _ | refine And.intro ?_ ?_)); done)) | refine RdN.intro _ rfl (by rfl) ?_); (conv => whnf))))
    exact fin_p (SlAt (at0 ob) (W.length * 1) (strC W)) ⟨W, ob, cap, rfl, hob, hic, hi30, hw1, fun w hw => hw⟩ fun w hw => hw.2.2.1
theorem result_c (x y z : Option Addr) (n m k c d e : Nat) : ∀ H, SpecH Tryd.prog 12 (pvs [.agg #[.slice x n c, .slice y m d, .slice z k e]]) H (Ret (.agg #[.slice x n c, .slice y m d, .slice z k e]) H) := by
  intro H
  refine factC hm Tryd.func12 (by kernel_rfl) rfl rfl ?_ H (fun w hw => trivial)
  (first | refine wX ?_ | exact wZ)
end Go.Proofs.YteljlkkppaobeaaDoor

/-
  Plain: how much a result holds.
-/
namespace Go.Opts

theorem upd_len {v : Nat → List (List UInt8)} {i m : Nat} {x : List (List UInt8)} (h : ∀ j, (v j).length ≤ m) (hx : x.length ≤ m) (j : Nat) : (upd v i x j).length ≤ m := by
  unfold upd
  cases Nat.beq j i with
  | true => exact hx
  | false => exact h j
theorem fin_len (g : List Int) {m : Nat} (hm : 1 ≤ m) : ∀ (l : List Opt) (i : Nat) (v : Nat → List (List UInt8)), (∀ j, (v j).length ≤ m) → ∀ j, ((finS g i l v).1 j).length ≤ m
  | [], _, v, h, j => h j
  | o :: l, i, v, h, j => by
    unfold finS
    split
    · exact fin_len g hm l _ v h j
    split
    · exact h j
    split
    · exact fin_len g hm l _ _ (fun k => upd_len h (x := [o.dflt]) hm k) j
    · exact fin_len g hm l _ v h j
theorem read_len {l : List Opt} {W : List (List UInt8)} {K : Nat} (hw : ∀ w ∈ W, w.length + 1 ≤ K) : ∀ (n : Nat) (s : PS), (∀ j, (s.vals j).length ≤ s.at_ * K) → s.left.length ≤ s.at_ → s.at_ ≤ W.length →
    (∀ j, ((readS l W false n s).1.vals j).length ≤ W.length * K + K) ∧ (readS l W false n s).1.left.length ≤ W.length + 1
  | 0, s, h1, h2, h3 => by
    have := Nat.mul_le_mul_right K h3
    exact ⟨fun j => Nat.le_trans (h1 j) (by omega), by show s.left.length ≤ _; omega⟩
  | n + 1, s, h1, h2, h3 => by
    have h4 := Nat.mul_le_mul_right K h3
    have hbase : (∀ j, (s.vals j).length ≤ W.length * K + K) ∧ s.left.length ≤ W.length + 1 := ⟨fun j => Nat.le_trans (h1 j) (by omega), by omega⟩
    unfold readS
    cases hg : W[s.at_]? with
    | none => exact hbase
    | some w =>
      have hlt : s.at_ < W.length := (List.getElem?_eq_some_iff.1 hg).1
      have hwl := hw w (List.mem_of_getElem? hg)
      have hgr := step_grow (l := l) (W := W) (stop := false) (w := w) (s := s) (n := s.at_ * K) h1
      obtain ⟨⟨s', e⟩, hst⟩ : ∃ x, stepS l W false w s = x := ⟨_, rfl⟩
      have ha := step_at hlt hst
      rw [hst] at hgr
      have h5 : (s.at_ + 1) * K ≤ s'.at_ * K := Nat.mul_le_mul_right _ ha.1
      have h6 := Nat.mul_le_mul_right K ha.2.1
      have hl' := ha.2.2.2 h2
      have hg' : ∀ j, (s'.vals j).length ≤ s'.at_ * K := fun j => by
        have h7 : (s'.vals j).length ≤ s.at_ * K + (w.length + 1) := hgr j
        rw [Nat.add_mul, Nat.one_mul] at h5
        omega
      simp only [hst]
      split
      · exact read_len hw n s' hg' hl' ha.2.1
      · exact ⟨fun j => by have := hg' j; show (s'.vals j).length ≤ _; omega, by show s'.left.length ≤ _; have := ha.2.1; omega⟩
theorem parse_len {l : List Opt} {W : List (List UInt8)} {K : Nat} (hK : 1 ≤ K) (hw : ∀ w ∈ W, w.length + 1 ≤ K) : (∀ j, ((parseS l W false).1.vals j).length ≤ W.length * K + K) ∧ (parseS l W false).1.left.length ≤ W.length + 1 := by
  have h0 := read_len (l := l) hw (W.length + 1) (initS l) (fun j => Nat.zero_le _) (Nat.zero_le _) (Nat.zero_le _)
  unfold parseS
  split
  · exact ⟨fun j => Nat.zero_le _, Nat.zero_le _⟩
  · obtain ⟨⟨s, a, e⟩, hr⟩ : ∃ x, readS l W false (W.length + 1) (initS l) = x := ⟨_, rfl⟩
    rw [hr] at h0
    simp only [hr]
    split
    · exact h0
    · have hf := fin_len s.given (m := W.length * K + K) (by omega) l 0 s.vals h0.1
      obtain ⟨⟨v, o⟩, hfin⟩ : ∃ x, finS s.given 0 l s.vals = x := ⟨_, rfl⟩
      rw [hfin] at hf
      simp only [hfin]
      cases o with
      | none => exact ⟨hf, h0.2⟩
      | some i => exact h0
end Go.Opts

/-
  Contract: results that are compared (law).
-/
namespace Go.Proofs.YteljlkkppaobeaaDoor
open Go.AX Go.RowKit Go.Opts
set_option maxRecDepth 20000

theorem same_c (n vb gb vb2 gb2 : Nat) (v v2 : Nat → VL) (g : List Int) (left left2 : VL) (z : Option Addr) (e : Nat) (X : List (List UInt8)) (hn8 : n ≤ 8) (hv : ∀ j, (v2 j).xs = (v j).xs) (hvl : ∀ j, (v j).xs.length ≤ 200000000000000) (hgl : g.length = n) (hll : left.xs.length ≤ 200000000000000) (hX : X.length ≤ 200000000000000) (hz : z = none → X = []) :
    ∀ H, (∀ w, Facts H w → (ResF n vb gb v g left w ∧ ResF n vb2 gb2 v2 g left2 w) ∧ SlAt z (X.length * 1) (strC X) w) → SpecH Tryd.prog 13 (pvs [resV n vb gb left, .agg #[.slice (some ⟨vb2, 0, none⟩) n n, .slice (some ⟨gb2, 0, none⟩) n n, .slice z X.length e]]) H (Ret (.bool (decide (left.xs = X))) H) := by
  refine factC hm Tryd.func13 (by kernel_rfl) rfl rfl ?_
  (first | refine wX ?_ | exact wZ)
  refine brd_ne (fun h => absurd rfl h) (fun _ => ?_)
  (first | refine wX ?_ | exact wZ)
  refine brd_ne (fun h => absurd rfl h) (fun _ => ?_)
  (first | refine wX ?_ | exact wZ)
  refine SpecH.know (callOk Tryd.func16 (by kernel_rfl) rfl) (at0 left.a = none → left.xs = []) (fun w hw h => vl_none (hw.1.1.1.2.2.1) h) fun hn1 => ?_
  refine call1 (texts_c (at0 left.a) z left.xs X left.c e hn1 hz hll hX _ (fun w hw => ⟨hw.1.1.1.2.2.1, hw.1.2⟩)) ?_
  by_cases heq : left.xs = X
  · rw [decide_eq_true heq]
    (first | refine wX ?_ | exact wZ)
    refine loopS Nat (fun i => i ≤ n) (fun i => mkS Tryd.f13.ntmps 0 [(2, .c (.lp 1 0)), (3, .c (.lp 2 0)), (5, .c (.v (.int .i64 (i : Int))))]) (fun i => n - i) rfl (fun _ => rfl) 0 (Nat.zero_le _) ?_ ?_
    · (repeat' (first | exact trivial | refine And.intro (by with_reducible rfl) ?_ | (with_reducible exact wkC_refl _) | (with_reducible exact wkCs_refl _) | refine And.intro ?_ ?_))
      all_goals rfl
    intro i hi
    (first | refine wX ?_ | exact wZ)
    refine brd_dec (fun h1 => ?_) (fun h1 => ?_)
    · have hi8 : i < 8 := by omega
      have hc1 : (vC n v)[i]? = some (vlV (v i)) := vC_get v (by omega)
      have hc2 : (vC n v2)[i]? = some (vlV (v2 i)) := vC_get v2 (by omega)
      (first | refine wX ?_ | exact wZ)
      refine Nd.mk ⟨rfl, by omega, by omega⟩ ?_
      (first | refine wX ?_ | exact wZ)
      refine LdN.one (vlV (v i)) rfl (fun w hw => hw.1.1.1.1) (by rw [Int.toNat_natCast]; show (vC n v)[i * 1]? = _; rw [Nat.mul_one]; exact hc1) ?_
      (first | refine wX ?_ | exact wZ)
      refine Nd.mk ⟨rfl, by omega, by omega⟩ ?_
      (first | refine wX ?_ | exact wZ)
      refine LdN.one (vlV (v2 i)) rfl (fun w hw => hw.1.1.2.1) (by rw [Int.toNat_natCast]; show (vC n v2)[i * 1]? = _; rw [Nat.mul_one]; exact hc2) ?_
      (first | refine wX ?_ | exact wZ)
      have hxs := hv i
      refine QCall.intro (.bool true) ?_ ?_
      · refine SpecH.know (callOk Tryd.func16 (by kernel_rfl) rfl) ((at0 (v i).a = none → (v i).xs = []) ∧ (at0 (v2 i).a = none → (v2 i).xs = [])) (fun w hw => ⟨fun h => vl_none (hw.1.1.1.2.2.2 i hi8) h, fun h => vl_none (hw.1.1.2.2.2.2 i hi8) h⟩) fun hn2 => ?_
        have ht := texts_c (at0 (v i).a) (at0 (v2 i).a) (v i).xs (v2 i).xs (v i).c (v2 i).c hn2.1 hn2.2 (hvl i) (by rw [hxs]; exact hvl i)
        rw [decide_eq_true hxs.symm] at ht
        exact ht _ (fun w hw => ⟨hw.1.1.1.2.2.2 i hi8, hw.1.1.2.2.2.2 i hi8⟩)
      (first | refine wX ?_ | exact wZ)
      refine ⟨i + 1, by omega, by omega, ?_, by (repeat' (first | exact trivial | exact wkE_refl _ | refine And.intro ?_ ?_))⟩
      (repeat' (first | exact trivial | refine And.intro (by with_reducible rfl) ?_ | (with_reducible exact wkC_refl _) | (with_reducible exact wkCs_refl _) | refine And.intro ?_ ?_))
      all_goals first | rfl | exact av_int (by rw [wrap_i64 (by omega)]; omega)
    · (first | refine wX ?_ | exact wZ)
      refine loopS Nat (fun i => i ≤ n) (fun i => mkS Tryd.f13.ntmps 0 [(2, .c (.lp 1 0)), (3, .c (.lp 2 0)), (6, .c (.v (.int .i64 (i : Int))))]) (fun i => n - i) rfl (fun _ => rfl) 0 (Nat.zero_le _) ?_ ?_
      · (repeat' (first | exact trivial | refine And.intro (by with_reducible rfl) ?_ | (with_reducible exact wkC_refl _) | (with_reducible exact wkCs_refl _) | refine And.intro ?_ ?_))
        all_goals rfl
      intro k hk
      (first | refine wX ?_ | exact wZ)
      refine brd_dec (fun h2 => ?_) (fun h2 => ?_)
      · obtain ⟨x, hx⟩ : ∃ x, g[k]? = some x := ⟨_, List.getElem?_eq_getElem (by omega)⟩
        have hc : (gC g)[(k : Int).toNat * 1]? = some (.int .i64 x) := by
          rw [Int.toNat_natCast, Nat.mul_one]
          show (g.map _)[k]? = _
          rw [List.getElem?_map, hx]
          rfl
        (first | refine wX ?_ | exact wZ)
        refine Nd.mk ⟨rfl, by omega, by omega⟩ ?_
        (first | refine wX ?_ | exact wZ)
        refine LdN.one (.int .i64 x) rfl (fun w hw => hw.1.1.1.2.1) hc ?_
        (first | refine wX ?_ | exact wZ)
        refine Nd.mk ⟨rfl, by omega, by omega⟩ ?_
        (first | refine wX ?_ | exact wZ)
        refine LdN.one (.int .i64 x) rfl (fun w hw => hw.1.1.2.2.1) hc ?_
        (first | refine wX ?_ | exact wZ)
        refine brd_ne (fun h => absurd rfl h) (fun _ => ?_)
        (first | refine wX ?_ | exact wZ)
        refine ⟨k + 1, by omega, by omega, ?_, by (repeat' (first | exact trivial | exact wkE_refl _ | refine And.intro ?_ ?_))⟩
        (repeat' (first | exact trivial | refine And.intro (by with_reducible rfl) ?_ | (with_reducible exact wkC_refl _) | (with_reducible exact wkCs_refl _) | refine And.intro ?_ ?_))
        all_goals first | rfl | exact av_int (by rw [wrap_i64 (by omega)]; omega)
      · (first | refine wX ?_ | exact wZ)
  · rw [decide_eq_false heq]
    (first | refine wX ?_ | exact wZ)
end Go.Proofs.YteljlkkppaobeaaDoor

/-
  Contract: OptsPrefixes (law).
-/
namespace Go.Proofs.YteljlkkppaobeaaDoor
open Go.AX Go.RowKit Go.Opts
set_option maxRecDepth 20000

theorem grown_bounds {l : List Int} : ∀ o ∈ grownS l, o.name.length ≤ 1000000000 := fun o ho => by
  obtain ⟨j, hj⟩ := List.getElem?_of_mem ho
  obtain ⟨hn, h8⟩ := grown_name hj
  have := (nameG_len ⟨j, h8⟩).2
  simp only at this
  rw [hn]
  omega
end Go.Proofs.YteljlkkppaobeaaDoor

/-
  AX, forty-fifth text: append of a slice that may be empty.
-/
namespace Go.AX

theorem setEK_self : ∀ {H : List Ent} {i : Nat} {e : Ent} {K : List Ent → Prop}, nthE H i = some e → setEK H i e K → K H
  | [], _, _, _, h, _ => by cases h
  | x :: H, 0, e, K, h, hk => by
    have : x = e := Option.some.inj h
    subst this
    exact hk
  | x :: H, i + 1, e, K, h, hk => setEK_self (H := H) (i := i) (K := fun ys => K (x :: ys)) h hk
/-- The target's cells lie in the entry i; what is appended is told by the facts. -/
theorem app_any {H : List Ent} {e : TypeId} {inf : TypeInfo} {n cap b0 m : Nat} {sa : Option Addr} {K : AV → List Ent → Prop} (i : Nat) (xs ys : List Value) (he : nthE H i = some (.app e inf.size xs (some ⟨b0, 0, none⟩) n cap)) (hn : n ≤ cap) (hsa : 0 < m → sa.isSome = true)
    (hlen : ys.length = m * inf.size) (hone : ∀ u ∈ ys, oneV u = true) (hok : ∀ w, Facts H w → ∀ j v, ys[j]? = some v → w.cell? ((sa.getD default).add j) = some v) (hroom : room n m inf.bytes ∧ inf.size ≠ 0)
    (next : ∀ b cap' : Nat, n + m ≤ cap' → setEK H i (.app e inf.size (xs ++ ys) (some ⟨b, 0, none⟩) (n + m) cap') fun H' => K (.c (.v (.slice (some ⟨b, 0, none⟩) (n + m) cap'))) H') :
    brd (Nat.beq m 0) (appendZ H (.c (.v (.slice (some ⟨b0, 0, none⟩) n cap))) (forceA (.c (.v (.slice (some ⟨b0, 0, none⟩) n cap))) fun x => K x H)) (Nd (sa.isSome = true) (ApN H (sa.getD default) m inf.size fun news => appendTo e inf H (.c (.v (.slice (some ⟨b0, 0, none⟩) n cap))) m news K)) := by
  cases m with
  | zero =>
    have h0 : ys = [] := List.eq_nil_of_length_eq_zero (by omega)
    subst h0
    have := next b0 cap (by omega)
    rw [List.append_nil, Nat.add_zero] at this
    exact ⟨hn, setEK_self he this⟩
  | succ m =>
    refine ⟨hsa (by omega), ⟨ys, hlen, hone, hok, ?_⟩⟩
    exact AppN.grow i xs ys he (plains_vs _) ⟨by omega, hroom⟩ fun b c h _ => next b c h
end Go.AX
