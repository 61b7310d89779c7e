/-
  Lemmas (C9 Ax42 C10 Ax43 C11 C12 Ax27 Ax37 C13 R1 P4 W1).
-/
import Derived.Lay
import Derived.PinnedBridge
import Derived.Test.YteljlkkppaobeaaGreatDoorMw5
/-
  Contract: short (program).
-/
namespace Go.Proofs.YteljlkkppaobeaaGreatDoor
open Go.AX Go.RowKit Go.Opts
set_option maxRecDepth 20000

theorem ps_eq {r : PS} {v' : Nat → VL} {left : VL} (hv : ∀ j, (v' j).xs = r.vals j) (hl : r.left = left.xs) : psOf r.at_ v' r.given left = r := by
  obtain ⟨a, vs, g, lf⟩ := r
  have e : (fun j => (v' j).xs) = vs := funext hv
  simp only at hl
  subst e hl
  rfl
def wrE (wb : Nat) (word : List UInt8) : Ent := .app 9 1 [.string (bs word)] (some ⟨wb, 0, none⟩) 1 1
def kE (kb : Nat) (k : Nat) : Ent := .app 3 1 [.int .i64 (k : Int)] (some ⟨kb, 0, none⟩) 1 1
set_option maxHeartbeats 2000000 in
theorem short_c (R : RL) (l : List Opt) (W : List (List UInt8)) (at0_ : Nat) (v0 : Nat → VL) (g0 : List Int) (left : VL) (word : List UInt8) (ok : RdOk R l W) (hg0 : g0.length = l.length) (hat0 : at0_ ≤ W.length) (hv0 : ∀ j, (v0 j).xs.length + word.length ≤ 1000000) (hw1 : 1 ≤ word.length) :
    SpecH Tryz.prog 29 [.c (.v (.pointer (some ⟨R.rb, 0, none⟩))), .c (.v (.string (bs word)))] (rdH R l W at0_ v0 g0 left)
      (RetG (ι := Nat → VL) (fun v' => ∀ j, (v' j).xs = (shortS l W (word.drop 1) (psOf at0_ v0 g0 left)).1.vals j) (fun _ => .int .i64 (shortS l W (word.drop 1) (psOf at0_ v0 g0 left)).2)
        fun v' => rdH R l W (shortS l W (word.drop 1) (psOf at0_ v0 g0 left)).1.at_ v' (shortS l W (word.drop 1) (psOf at0_ v0 g0 left)).1.given left) := by
  refine ownC hm Tryz.func29 (by kernel_rfl) rfl rfl (fun _ _ => okHB_eq rfl) (fun _ _ => Nat.le_refl _) ?_
  have hz := bs_size word
  have hwl : word.length ≤ 1000000 := by have := hv0 0; omega
  generalize hR : shortS l W (word.drop 1) (psOf at0_ v0 g0 left) = r
  ((conv => whnf); (repeat ((first | refine RwN.own ?_ | refine VrN.norm (wrap_i64 (by omega)) ?_ | refine VrN.keep ?_ | refine DrawN.calm (by decide +kernel) ?_ | refine Nd.mk (by decide +kernel) ?_ | refine Nd.mk (by omega) ?_ | (refine Nd.mk ?_ ?_; focus ((repeat' (first | exact trivial | exact wkE_refl _ | refine And.intro ?_ ?_)); done)) | refine RdN.intro _ rfl (by rfl) ?_); (conv => whnf))))
  refine BoxN.known _ rfl fun wb => ?_
  ((conv => whnf); (repeat ((first | refine RwN.own ?_ | refine VrN.norm (wrap_i64 (by omega)) ?_ | refine VrN.keep ?_ | refine DrawN.calm (by decide +kernel) ?_ | refine Nd.mk (by decide +kernel) ?_ | refine Nd.mk (by omega) ?_ | (refine Nd.mk ?_ ?_; focus ((repeat' (first | exact trivial | exact wkE_refl _ | refine And.intro ?_ ?_)); done)) | refine RdN.intro _ rfl (by rfl) ?_); (conv => whnf))))
  refine BoxN.known _ rfl fun kb0 => ?_
  ((conv => whnf); (repeat ((first | refine RwN.own ?_ | refine VrN.norm (wrap_i64 (by omega)) ?_ | refine VrN.keep ?_ | refine DrawN.calm (by decide +kernel) ?_ | refine Nd.mk (by decide +kernel) ?_ | refine Nd.mk (by omega) ?_ | (refine Nd.mk ?_ ?_; focus ((repeat' (first | exact trivial | exact wkE_refl _ | refine And.intro ?_ ?_)); done)) | refine RdN.intro _ rfl (by rfl) ?_); (conv => whnf))))
  refine EffW.appTo (i := 14) (q := 0) (ys := [_]) [.int .i64 ((1 : Nat) : Int)] 1 rfl rfl rfl rfl rfl rfl rfl (Nat.le_of_ble_eq_true rfl) rfl rfl ?_
  ((conv => whnf); (repeat ((first | refine RwN.own ?_ | refine VrN.norm (wrap_i64 (by omega)) ?_ | refine VrN.keep ?_ | refine DrawN.calm (by decide +kernel) ?_ | refine Nd.mk (by decide +kernel) ?_ | refine Nd.mk (by omega) ?_ | (refine Nd.mk ?_ ?_; focus ((repeat' (first | exact trivial | exact wkE_refl _ | refine And.intro ?_ ?_)); done)) | refine RdN.intro _ rfl (by rfl) ?_); (conv => whnf))))
  refine LoopN.intro (Nat × Nat × Nat × (Nat → VL) × List Int) (fun ⟨k, _, at_, v, g⟩ => (1 ≤ k ∧ k ≤ word.length) ∧ at_ ≤ W.length ∧ g.length = l.length ∧ (∀ j, (v j).xs.length + (word.length - k) ≤ 1000000) ∧ shortS l W (word.drop k) (psOf at_ v g left) = r)
    (fun ⟨_, kb, _, _, _⟩ => mkS Tryz.f29.ntmps 0 [(0, .c (.v (.pointer (some ⟨R.rb, 0, none⟩)))), (3, .c (.v (.pointer (some ⟨wb, 0, none⟩)))), (4, .c (.v (.int .i64 0))), (5, .c (.v (.pointer (some ⟨kb, 0, none⟩))))])
    (fun ⟨k, kb, at_, v, g⟩ => rdH R l W at_ v g left ++ [wrE wb word, kE kb k]) (fun ⟨k, _, _, _, _⟩ => word.length - k) [] rfl (fun _ => rfl) (fun _ => rfl) (fun _ _ => okHB_eq rfl) ⟨⟨1, kb0, at0_, v0, g0⟩, ⟨⟨Nat.le_refl 1, hw1⟩, hat0, hg0, fun j => by have := hv0 j; omega, hR⟩, ?_, ⟨wkE_refl _, wkE_refl _, wkE_refl _, wkE_refl _, wkE_refl _, wkE_refl _, wkE_refl _, wkE_refl _, wkE_refl _, wkE_refl _, wkE_refl _, wkE_refl _, wkE_refl _, wkE_refl _, wkE_refl _, wkH_nil _⟩⟩ ?_
  · (repeat' (first | exact trivial | refine And.intro (by with_reducible rfl) ?_ | (with_reducible exact wkC_refl _) | (with_reducible exact wkCs_refl _) | refine And.intro ?_ ?_))
    all_goals rfl
  rintro ⟨k, kb, at_, v, g⟩ ⟨⟨hk1, hk⟩, hat, hg, hv, he⟩
  (first | refine wX ?_ | exact wZ)
  refine LdN.one (a := some ⟨kb, 0, none⟩) (q := 0) (.int .i64 (k : Int)) rfl (fun w hw => hw.2.2.2.2.2.2.2.2.2.2.2.2.2.2.1) rfl ?_
  (first | refine wX ?_ | exact wZ)
  refine LdN.one (a := some ⟨wb, 0, none⟩) (q := 0) (.string (bs word)) rfl (fun w hw => hw.2.2.2.2.2.2.2.2.2.2.2.2.2.1) rfl ?_
  (first | refine wX ?_ | exact wZ)
  rw [hz]
  refine brd_dec (fun h1 => ?_) (fun h1 => ?_)
  · obtain ⟨c, hc⟩ : ∃ c, word[k]? = some c := ⟨_, List.getElem?_eq_getElem (by omega)⟩
    rw [short_drop l W word k hc] at he
    (first | refine wX ?_ | exact wZ)
    -- 0: the field, .slice R.la l.length R.lc: the value
    refine LdN.one (a := some ⟨R.rb, 0, none⟩) (q := 0) (.slice R.la l.length R.lc) rfl (fun w hw => hw.2.1) rfl ?_
    (first | refine wX ?_ | exact wZ)
    refine SpecH.args (args' := pvs [.slice R.la l.length R.lc, .func (.func 44) #[] #[.pointer (some ⟨wb, 0, none⟩), .pointer (some ⟨kb, 0, none⟩)]]) (by simp [pvs, opvs, opv, nth, plainEv]; try rfl) ?_
    refine call1 (IndexFunc_c (fun o => o.short == c) 44 #[.pointer (some ⟨wb, 0, none⟩), .pointer (some ⟨kb, 0, none⟩)] (ShF wb kb word k) (fun o H hH => short1_c wb kb word k c hc o H hH) R.la R.lc l l.length ok.la (Nat.le_refl _) (Nat.le_trans ok.n8 (by decide)) _ ?_) ?_
    · exact fun w hw => ⟨hw.1.1, hw.2.2.2.2.2.2.2.2.2.2.2.2.2.1, hw.2.2.2.2.2.2.2.2.2.2.2.2.2.2.1⟩
    rw [List.take_length, shortI_idx]
    rcases shortI_lt c l 0 with hneg | ⟨hge, hlt⟩
    · (first | refine wX ?_ | exact wZ)
      refine brd_dec (fun _ => ?_) (fun h => absurd hneg h)
      rw [if_pos (.inl hneg)] at he
      obtain rfl := he
      (first | refine wX ?_ | exact wZ)
      exact ⟨v, fun _ => rfl, rfl, wkE_refl _, wkE_refl _, wkE_refl _, wkE_refl _, wkE_refl _, wkE_refl _, wkE_refl _, wkE_refl _, wkE_refl _, wkE_refl _, wkE_refl _, wkE_refl _, wkE_refl _, wkH_nil _⟩
    · obtain ⟨i, hi⟩ : ∃ i : Nat, shortI c l 0 = (i : Int) := ⟨(shortI c l 0).toNat, by omega⟩
      rw [hi] at he ⊢
      rw [Int.toNat_natCast] at he
      obtain ⟨o, ho⟩ : ∃ o, l[i]? = some o := ⟨_, List.getElem?_eq_getElem (by omega)⟩
      have hmo := List.mem_of_getElem? ho
      have hkA : kindAt l i = o.kind := by unfold kindAt; rw [ho]
      have hkf : (optsC l)[i * 5 + 2]? = some (.int .i64 o.kind) := (optsC_get l i 2 (by decide) ho).trans rfl
      have hsa : R.la.isSome = true := by
        cases hr : R.la with
        | none => rw [ok.la hr] at ho; cases ho
        | some b => rfl
      have hcl := c.toNat_lt
      (first | refine wX ?_ | exact wZ)
      refine LdN.one (a := some ⟨wb, 0, none⟩) (q := 0) (.string (bs word)) rfl (fun w hw => hw.2.2.2.2.2.2.2.2.2.2.2.2.2.1) rfl ?_
      (first | refine wX ?_ | exact wZ)
      refine LdN.one (a := some ⟨kb, 0, none⟩) (q := 0) (.int .i64 (k : Int)) rfl (fun w hw => hw.2.2.2.2.2.2.2.2.2.2.2.2.2.2.1) rfl ?_
      (first | refine wX ?_ | exact wZ)
      rw [Int.toNat_natCast, byteAt_get hc, u8_zero]
      cases hc0 : c == 0 with
      | true =>
        rw [if_pos (.inr (eq_of_beq hc0))] at he
        obtain rfl := he
        (first | refine wX ?_ | exact wZ)
        exact ⟨v, fun _ => rfl, rfl, wkE_refl _, wkE_refl _, wkE_refl _, wkE_refl _, wkE_refl _, wkE_refl _, wkE_refl _, wkE_refl _, wkE_refl _, wkE_refl _, wkE_refl _, wkE_refl _, wkE_refl _, wkH_nil _⟩
      | false =>
        rw [if_neg (by
          intro h
          rcases h with h | h
          · omega
          · rw [h] at hc0; cases hc0), hkA] at he
        (first | refine wX ?_ | exact wZ)
        refine LdN.one (a := some ⟨wb, 0, none⟩) (q := 0) (.string (bs word)) rfl (fun w hw => hw.2.2.2.2.2.2.2.2.2.2.2.2.2.1) rfl ?_
        (first | refine wX ?_ | exact wZ)
        refine LdN.one (a := some ⟨kb, 0, none⟩) (q := 0) (.int .i64 (k : Int)) rfl (fun w hw => hw.2.2.2.2.2.2.2.2.2.2.2.2.2.2.1) rfl ?_
        (first | refine wX ?_ | exact wZ)
        refine ReadW.sl_l (k + 1) rfl Tryz.underlying9 rfl rfl ⟨by rw [wrap_i64 (by omega)]; rfl, by omega⟩ ?_
        generalize hrest : word.drop (k + 1) = rest at he ⊢
        have hgc : ∀ has, SpecH Tryz.prog 43 [.c (.v (.pointer (some ⟨R.rb, 0, none⟩))), .c (.v (.int .i64 (i : Int))), .c (.v (.bool false)), .c (.v (.string (bs rest))), .c (.v (.bool has))] (rdH R l W at_ v g left) _ := fun has => give_c R l W at_ v g left i false rest has o ho (ok.kinds o hmo) ok.n8 hg hat ok.words ok.wa ok.la (by have := hv i; omega)
        have hge : ((bs rest).data.toList == (⟨#[]⟩ : ByteArray).data.toList) = (rest == []) := by rw [bs_list]
        have hok := ok.kinds o hmo
        generalize o.kind = kd at *
        have hk6 : kd = 1 ∨ kd = 2 ∨ kd = 4 ∨ (kd = 0 ∨ kd = 3 ∨ kd = 5) := by omega
        (first | refine wX ?_ | exact wZ)
        -- 0: the field, .slice R.la l.length R.lc: the value
        refine LdN.one (a := some ⟨R.rb, 0, none⟩) (q := 0) (.slice R.la l.length R.lc) rfl (fun w hw => hw.2.1) rfl ?_
        (first | refine wX ?_ | exact wZ)
        refine Nd.mk ⟨hsa, by omega, by omega⟩ ?_
        (first | refine wX ?_ | exact wZ)
        refine LdN.fld (.int .i64 _) rfl (fun w hw => hw.1.1) (by rw [Int.toNat_natCast]; exact hkf) ?_
        (first | refine wX ?_ | exact wZ)
        rcases hk6 with rfl | rfl | rfl | hk6
        · cases hre : rest == [] with
          | true =>
            rw [show (takesB _ && rest != []) = false by rw [bne, hre]; rfl] at he
            (first | refine wX ?_ | exact wZ)
            rw [hge, hre]
            (first | refine wX ?_ | exact wZ)
            -- false: is there a value; two goals: an error, none
            refine callG (hgc false) [0, 1, 2, 3, 4, 5, 6, 7, 8, 9, 10, 11, 12] rfl ⟨rfl, rfl, rfl, rfl, rfl, rfl, rfl, rfl, rfl, rfl, rfl, rfl, rfl, trivial⟩ rfl fun v' hv' => ?_
            generalize hG : giveS l W i false rest false (psOf at_ v g left) = q at *
            obtain ⟨s1, e⟩ := q
            have hat1 := give_at hG
            have hgr := give_grow (l := l) (W := W) (i := i) (no := false) (value := rest) (has := false) (s := psOf at_ v g left) (n := 1000000 - (word.length - k)) (fun j => by have := hv j; show (v j).xs.length ≤ _; omega)
            rw [hG] at hgr
            (first | refine wX ?_ | exact wZ)
            refine brd_ne (fun h4 => ?_) (fun h4 => ?_)
            · obtain rfl : (s1, e) = r := by
                rw [← he]
                exact (if_neg h4).symm
              (first | refine wX ?_ | exact wZ)
              exact ⟨v', hv', rfl, wkE_refl _, wkE_refl _, wkE_refl _, wkE_refl _, wkE_refl _, wkE_refl _, wkE_refl _, wkE_refl _, wkE_refl _, wkE_refl _, wkE_refl _, wkE_refl _, wkE_refl _, wkH_nil _⟩
            obtain rfl : e = 0 := h4
            (first | refine wX ?_ | exact wZ)
            obtain rfl : (s1, 0) = r := by rw [← he]; rfl
            exact ⟨v', hv', rfl, wkE_refl _, wkE_refl _, wkE_refl _, wkE_refl _, wkE_refl _, wkE_refl _, wkE_refl _, wkE_refl _, wkE_refl _, wkE_refl _, wkE_refl _, wkE_refl _, wkE_refl _, wkH_nil _⟩
          | false =>
            rw [show (takesB _ && rest != []) = true by rw [bne, hre]; rfl] at he
            (first | refine wX ?_ | exact wZ)
            rw [hge, hre]
            (first | refine wX ?_ | exact wZ)
            -- true: is there a value; two goals: an error, none
            refine callG (hgc true) [0, 1, 2, 3, 4, 5, 6, 7, 8, 9, 10, 11, 12] rfl ⟨rfl, rfl, rfl, rfl, rfl, rfl, rfl, rfl, rfl, rfl, rfl, rfl, rfl, trivial⟩ rfl fun v' hv' => ?_
            generalize hG : giveS l W i false rest true (psOf at_ v g left) = q at *
            obtain ⟨s1, e⟩ := q
            have hat1 := give_at hG
            have hgr := give_grow (l := l) (W := W) (i := i) (no := false) (value := rest) (has := true) (s := psOf at_ v g left) (n := 1000000 - (word.length - k)) (fun j => by have := hv j; show (v j).xs.length ≤ _; omega)
            rw [hG] at hgr
            (first | refine wX ?_ | exact wZ)
            refine brd_ne (fun h4 => ?_) (fun h4 => ?_)
            · obtain rfl : (s1, e) = r := by
                rw [← he]
                exact (if_neg h4).symm
              (first | refine wX ?_ | exact wZ)
              exact ⟨v', hv', rfl, wkE_refl _, wkE_refl _, wkE_refl _, wkE_refl _, wkE_refl _, wkE_refl _, wkE_refl _, wkE_refl _, wkE_refl _, wkE_refl _, wkE_refl _, wkE_refl _, wkE_refl _, wkH_nil _⟩
            obtain rfl : e = 0 := h4
            (first | refine wX ?_ | exact wZ)
            obtain rfl : (s1, 0) = r := by rw [← he]; rfl
            exact ⟨v', hv', rfl, wkE_refl _, wkE_refl _, wkE_refl _, wkE_refl _, wkE_refl _, wkE_refl _, wkE_refl _, wkE_refl _, wkE_refl _, wkE_refl _, wkE_refl _, wkE_refl _, wkE_refl _, wkH_nil _⟩
        · -- 0: the field, .slice R.la l.length R.lc: the value
          refine LdN.one (a := some ⟨R.rb, 0, none⟩) (q := 0) (.slice R.la l.length R.lc) rfl (fun w hw => hw.2.1) rfl ?_
          (first | refine wX ?_ | exact wZ)
          refine Nd.mk ⟨hsa, by omega, by omega⟩ ?_
          (first | refine wX ?_ | exact wZ)
          refine LdN.fld (.int .i64 _) rfl (fun w hw => hw.1.1) (by rw [Int.toNat_natCast]; exact hkf) ?_
          (first | refine wX ?_ | exact wZ)
          cases hre : rest == [] with
          | true =>
            rw [show (takesB _ && rest != []) = false by rw [bne, hre]; rfl] at he
            (first | refine wX ?_ | exact wZ)
            rw [hge, hre]
            (first | refine wX ?_ | exact wZ)
            -- false: is there a value; two goals: an error, none
            refine callG (hgc false) [0, 1, 2, 3, 4, 5, 6, 7, 8, 9, 10, 11, 12] rfl ⟨rfl, rfl, rfl, rfl, rfl, rfl, rfl, rfl, rfl, rfl, rfl, rfl, rfl, trivial⟩ rfl fun v' hv' => ?_
            generalize hG : giveS l W i false rest false (psOf at_ v g left) = q at *
            obtain ⟨s1, e⟩ := q
            have hat1 := give_at hG
            have hgr := give_grow (l := l) (W := W) (i := i) (no := false) (value := rest) (has := false) (s := psOf at_ v g left) (n := 1000000 - (word.length - k)) (fun j => by have := hv j; show (v j).xs.length ≤ _; omega)
            rw [hG] at hgr
            (first | refine wX ?_ | exact wZ)
            refine brd_ne (fun h4 => ?_) (fun h4 => ?_)
            · obtain rfl : (s1, e) = r := by
                rw [← he]
                exact (if_neg h4).symm
              (first | refine wX ?_ | exact wZ)
              exact ⟨v', hv', rfl, wkE_refl _, wkE_refl _, wkE_refl _, wkE_refl _, wkE_refl _, wkE_refl _, wkE_refl _, wkE_refl _, wkE_refl _, wkE_refl _, wkE_refl _, wkE_refl _, wkE_refl _, wkH_nil _⟩
            obtain rfl : e = 0 := h4
            (first | refine wX ?_ | exact wZ)
            obtain rfl : (s1, 0) = r := by rw [← he]; rfl
            exact ⟨v', hv', rfl, wkE_refl _, wkE_refl _, wkE_refl _, wkE_refl _, wkE_refl _, wkE_refl _, wkE_refl _, wkE_refl _, wkE_refl _, wkE_refl _, wkE_refl _, wkE_refl _, wkE_refl _, wkH_nil _⟩
          | false =>
            rw [show (takesB _ && rest != []) = true by rw [bne, hre]; rfl] at he
            (first | refine wX ?_ | exact wZ)
            rw [hge, hre]
            (first | refine wX ?_ | exact wZ)
            -- true: is there a value; two goals: an error, none
            refine callG (hgc true) [0, 1, 2, 3, 4, 5, 6, 7, 8, 9, 10, 11, 12] rfl ⟨rfl, rfl, rfl, rfl, rfl, rfl, rfl, rfl, rfl, rfl, rfl, rfl, rfl, trivial⟩ rfl fun v' hv' => ?_
            generalize hG : giveS l W i false rest true (psOf at_ v g left) = q at *
            obtain ⟨s1, e⟩ := q
            have hat1 := give_at hG
            have hgr := give_grow (l := l) (W := W) (i := i) (no := false) (value := rest) (has := true) (s := psOf at_ v g left) (n := 1000000 - (word.length - k)) (fun j => by have := hv j; show (v j).xs.length ≤ _; omega)
            rw [hG] at hgr
            (first | refine wX ?_ | exact wZ)
            refine brd_ne (fun h4 => ?_) (fun h4 => ?_)
            · obtain rfl : (s1, e) = r := by
                rw [← he]
                exact (if_neg h4).symm
              (first | refine wX ?_ | exact wZ)
              exact ⟨v', hv', rfl, wkE_refl _, wkE_refl _, wkE_refl _, wkE_refl _, wkE_refl _, wkE_refl _, wkE_refl _, wkE_refl _, wkE_refl _, wkE_refl _, wkE_refl _, wkE_refl _, wkE_refl _, wkH_nil _⟩
            obtain rfl : e = 0 := h4
            (first | refine wX ?_ | exact wZ)
            obtain rfl : (s1, 0) = r := by rw [← he]; rfl
            exact ⟨v', hv', rfl, wkE_refl _, wkE_refl _, wkE_refl _, wkE_refl _, wkE_refl _, wkE_refl _, wkE_refl _, wkE_refl _, wkE_refl _, wkE_refl _, wkE_refl _, wkE_refl _, wkE_refl _, wkH_nil _⟩
        · -- 0: the field, .slice R.la l.length R.lc: the value
          refine LdN.one (a := some ⟨R.rb, 0, none⟩) (q := 0) (.slice R.la l.length R.lc) rfl (fun w hw => hw.2.1) rfl ?_
          (first | refine wX ?_ | exact wZ)
          refine Nd.mk ⟨hsa, by omega, by omega⟩ ?_
          (first | refine wX ?_ | exact wZ)
          refine LdN.fld (.int .i64 _) rfl (fun w hw => hw.1.1) (by rw [Int.toNat_natCast]; exact hkf) ?_
          (first | refine wX ?_ | exact wZ)
          -- 0: the field, .slice R.la l.length R.lc: the value
          refine LdN.one (a := some ⟨R.rb, 0, none⟩) (q := 0) (.slice R.la l.length R.lc) rfl (fun w hw => hw.2.1) rfl ?_
          (first | refine wX ?_ | exact wZ)
          refine Nd.mk ⟨hsa, by omega, by omega⟩ ?_
          (first | refine wX ?_ | exact wZ)
          refine LdN.fld (.int .i64 _) rfl (fun w hw => hw.1.1) (by rw [Int.toNat_natCast]; exact hkf) ?_
          (first | refine wX ?_ | exact wZ)
          cases hre : rest == [] with
          | true =>
            rw [show (takesB _ && rest != []) = false by rw [bne, hre]; rfl] at he
            (first | refine wX ?_ | exact wZ)
            rw [hge, hre]
            (first | refine wX ?_ | exact wZ)
            -- false: is there a value; two goals: an error, none
            refine callG (hgc false) [0, 1, 2, 3, 4, 5, 6, 7, 8, 9, 10, 11, 12] rfl ⟨rfl, rfl, rfl, rfl, rfl, rfl, rfl, rfl, rfl, rfl, rfl, rfl, rfl, trivial⟩ rfl fun v' hv' => ?_
            generalize hG : giveS l W i false rest false (psOf at_ v g left) = q at *
            obtain ⟨s1, e⟩ := q
            have hat1 := give_at hG
            have hgr := give_grow (l := l) (W := W) (i := i) (no := false) (value := rest) (has := false) (s := psOf at_ v g left) (n := 1000000 - (word.length - k)) (fun j => by have := hv j; show (v j).xs.length ≤ _; omega)
            rw [hG] at hgr
            (first | refine wX ?_ | exact wZ)
            refine brd_ne (fun h4 => ?_) (fun h4 => ?_)
            · obtain rfl : (s1, e) = r := by
                rw [← he]
                exact (if_neg h4).symm
              (first | refine wX ?_ | exact wZ)
              exact ⟨v', hv', rfl, wkE_refl _, wkE_refl _, wkE_refl _, wkE_refl _, wkE_refl _, wkE_refl _, wkE_refl _, wkE_refl _, wkE_refl _, wkE_refl _, wkE_refl _, wkE_refl _, wkE_refl _, wkH_nil _⟩
            obtain rfl : e = 0 := h4
            (first | refine wX ?_ | exact wZ)
            obtain rfl : (s1, 0) = r := by rw [← he]; rfl
            exact ⟨v', hv', rfl, wkE_refl _, wkE_refl _, wkE_refl _, wkE_refl _, wkE_refl _, wkE_refl _, wkE_refl _, wkE_refl _, wkE_refl _, wkE_refl _, wkE_refl _, wkE_refl _, wkE_refl _, wkH_nil _⟩
          | false =>
            rw [show (takesB _ && rest != []) = true by rw [bne, hre]; rfl] at he
            (first | refine wX ?_ | exact wZ)
            rw [hge, hre]
            (first | refine wX ?_ | exact wZ)
            -- true: is there a value; two goals: an error, none
            refine callG (hgc true) [0, 1, 2, 3, 4, 5, 6, 7, 8, 9, 10, 11, 12] rfl ⟨rfl, rfl, rfl, rfl, rfl, rfl, rfl, rfl, rfl, rfl, rfl, rfl, rfl, trivial⟩ rfl fun v' hv' => ?_
            generalize hG : giveS l W i false rest true (psOf at_ v g left) = q at *
            obtain ⟨s1, e⟩ := q
            have hat1 := give_at hG
            have hgr := give_grow (l := l) (W := W) (i := i) (no := false) (value := rest) (has := true) (s := psOf at_ v g left) (n := 1000000 - (word.length - k)) (fun j => by have := hv j; show (v j).xs.length ≤ _; omega)
            rw [hG] at hgr
            (first | refine wX ?_ | exact wZ)
            refine brd_ne (fun h4 => ?_) (fun h4 => ?_)
            · obtain rfl : (s1, e) = r := by
                rw [← he]
                exact (if_neg h4).symm
              (first | refine wX ?_ | exact wZ)
              exact ⟨v', hv', rfl, wkE_refl _, wkE_refl _, wkE_refl _, wkE_refl _, wkE_refl _, wkE_refl _, wkE_refl _, wkE_refl _, wkE_refl _, wkE_refl _, wkE_refl _, wkE_refl _, wkE_refl _, wkH_nil _⟩
            obtain rfl : e = 0 := h4
            (first | refine wX ?_ | exact wZ)
            obtain rfl : (s1, 0) = r := by rw [← he]; rfl
            exact ⟨v', hv', rfl, wkE_refl _, wkE_refl _, wkE_refl _, wkE_refl _, wkE_refl _, wkE_refl _, wkE_refl _, wkE_refl _, wkE_refl _, wkE_refl _, wkE_refl _, wkE_refl _, wkE_refl _, wkH_nil _⟩
        · rcases hk6 with rfl | rfl | rfl
          · rw [show (takesB 0 && rest != []) = false from rfl] at he
            -- 0: the field, .slice R.la l.length R.lc: the value
            refine LdN.one (a := some ⟨R.rb, 0, none⟩) (q := 0) (.slice R.la l.length R.lc) rfl (fun w hw => hw.2.1) rfl ?_
            (first | refine wX ?_ | exact wZ)
            refine Nd.mk ⟨hsa, by omega, by omega⟩ ?_
            (first | refine wX ?_ | exact wZ)
            refine LdN.fld (.int .i64 _) rfl (fun w hw => hw.1.1) (by rw [Int.toNat_natCast]; exact hkf) ?_
            (first | refine wX ?_ | exact wZ)
            -- 0: the field, .slice R.la l.length R.lc: the value
            refine LdN.one (a := some ⟨R.rb, 0, none⟩) (q := 0) (.slice R.la l.length R.lc) rfl (fun w hw => hw.2.1) rfl ?_
            (first | refine wX ?_ | exact wZ)
            refine Nd.mk ⟨hsa, by omega, by omega⟩ ?_
            (first | refine wX ?_ | exact wZ)
            refine LdN.fld (.int .i64 _) rfl (fun w hw => hw.1.1) (by rw [Int.toNat_natCast]; exact hkf) ?_
            (first | refine wX ?_ | exact wZ)
            -- false: is there a value; two goals: an error, none
            refine callG (hgc false) [0, 1, 2, 3, 4, 5, 6, 7, 8, 9, 10, 11, 12] rfl ⟨rfl, rfl, rfl, rfl, rfl, rfl, rfl, rfl, rfl, rfl, rfl, rfl, rfl, trivial⟩ rfl fun v' hv' => ?_
            generalize hG : giveS l W i false rest false (psOf at_ v g left) = q at *
            obtain ⟨s1, e⟩ := q
            have hat1 := give_at hG
            have hgr := give_grow (l := l) (W := W) (i := i) (no := false) (value := rest) (has := false) (s := psOf at_ v g left) (n := 1000000 - (word.length - k)) (fun j => by have := hv j; show (v j).xs.length ≤ _; omega)
            rw [hG] at hgr
            (first | refine wX ?_ | exact wZ)
            refine brd_ne (fun h4 => ?_) (fun h4 => ?_)
            · obtain rfl : (s1, e) = r := by
                rw [← he]
                exact (if_neg h4).symm
              (first | refine wX ?_ | exact wZ)
              exact ⟨v', hv', rfl, wkE_refl _, wkE_refl _, wkE_refl _, wkE_refl _, wkE_refl _, wkE_refl _, wkE_refl _, wkE_refl _, wkE_refl _, wkE_refl _, wkE_refl _, wkE_refl _, wkE_refl _, wkH_nil _⟩
            obtain rfl : e = 0 := h4
            (first | refine wX ?_ | exact wZ)
            have he2 : shortS l W rest s1 = r := he
            refine LdN.one (a := some ⟨kb, 0, none⟩) (q := 0) (.int .i64 (k : Int)) rfl (fun w hw => hw.2.2.2.2.2.2.2.2.2.2.2.2.2.2.1) rfl ?_
            ((conv => whnf); (repeat ((first | refine RwN.own ?_ | refine VrN.norm (wrap_i64 (by omega)) ?_ | refine VrN.keep ?_ | refine DrawN.calm (by decide +kernel) ?_ | refine Nd.mk (by decide +kernel) ?_ | refine Nd.mk (by omega) ?_ | (refine Nd.mk ?_ ?_; focus ((repeat' (first | exact trivial | exact wkE_refl _ | refine And.intro ?_ ?_)); done)) | refine RdN.intro _ rfl (by rfl) ?_); (conv => whnf))))
            refine BoxN.known _ rfl fun kb2 => ?_
            ((conv => whnf); (repeat ((first | refine RwN.own ?_ | refine VrN.norm (wrap_i64 (by omega)) ?_ | refine VrN.keep ?_ | refine DrawN.calm (by decide +kernel) ?_ | refine Nd.mk (by decide +kernel) ?_ | refine Nd.mk (by omega) ?_ | (refine Nd.mk ?_ ?_; focus ((repeat' (first | exact trivial | exact wkE_refl _ | refine And.intro ?_ ?_)); done)) | refine RdN.intro _ rfl (by rfl) ?_); (conv => whnf))))
            refine EffW.swp 14 15 rfl rfl rfl ?_
            refine EffW.appTo (i := 14) (q := 0) (ys := [_]) [.int .i64 (k : Int)] 1 rfl rfl rfl rfl rfl rfl rfl (Nat.le_of_ble_eq_true rfl) rfl rfl ?_
            (first | refine wX ?_ | exact wZ)
            refine LdN.one (a := some ⟨kb2, 0, none⟩) (q := 0) (.int .i64 (k : Int)) rfl (fun w hw => hw.2.2.2.2.2.2.2.2.2.2.2.2.2.2.1) rfl ?_
            (first | refine wX ?_ | exact wZ)
            refine EffW.appTo (i := 14) (q := 0) (ys := [_]) [.int .i64 ((k + 1 : Nat) : Int)] 1 rfl rfl rfl rfl rfl rfl rfl (Nat.le_of_ble_eq_true rfl) (by
              show [Value.int .i64 _] = [Value.int .i64 _]
              rw [wrap_i64 (by omega)]
              rfl) rfl ?_
            (first | refine wX ?_ | exact wZ)
            refine ⟨⟨k + 1, kb2, s1.at_, v', s1.given⟩, ⟨⟨by omega, by omega⟩, hat1.2.1 hat, by rw [hat1.2.2.2]; exact hg, fun j => ?_, ?_⟩, by show word.length - (k + 1) < word.length - k; omega, ?_, ⟨wkE_refl _, wkE_refl _, wkE_refl _, wkE_refl _, wkE_refl _, wkE_refl _, wkE_refl _, wkE_refl _, wkE_refl _, wkE_refl _, wkE_refl _, wkE_refl _, wkE_refl _, wkE_refl _, wkE_refl _, wkH_nil _⟩⟩
            · have := hgr j
              rw [hv' j]
              show (s1.vals j).length + _ ≤ _
              have h2 : (s1.vals j).length ≤ 1000000 - (word.length - k) + 1 := this
              omega
            · have hps : psOf s1.at_ v' s1.given left = s1 := ps_eq (fun j => hv' j) hat1.2.2.1
              rw [hps, hrest]
              exact he2
            · (repeat' (first | exact trivial | refine And.intro (by with_reducible rfl) ?_ | (with_reducible exact wkC_refl _) | (with_reducible exact wkCs_refl _) | refine And.intro ?_ ?_))
              all_goals rfl
          · rw [show (takesB 3 && rest != []) = false from rfl] at he
            -- 0: the field, .slice R.la l.length R.lc: the value
            refine LdN.one (a := some ⟨R.rb, 0, none⟩) (q := 0) (.slice R.la l.length R.lc) rfl (fun w hw => hw.2.1) rfl ?_
            (first | refine wX ?_ | exact wZ)
            refine Nd.mk ⟨hsa, by omega, by omega⟩ ?_
            (first | refine wX ?_ | exact wZ)
            refine LdN.fld (.int .i64 _) rfl (fun w hw => hw.1.1) (by rw [Int.toNat_natCast]; exact hkf) ?_
            (first | refine wX ?_ | exact wZ)
            -- 0: the field, .slice R.la l.length R.lc: the value
            refine LdN.one (a := some ⟨R.rb, 0, none⟩) (q := 0) (.slice R.la l.length R.lc) rfl (fun w hw => hw.2.1) rfl ?_
            (first | refine wX ?_ | exact wZ)
            refine Nd.mk ⟨hsa, by omega, by omega⟩ ?_
            (first | refine wX ?_ | exact wZ)
            refine LdN.fld (.int .i64 _) rfl (fun w hw => hw.1.1) (by rw [Int.toNat_natCast]; exact hkf) ?_
            (first | refine wX ?_ | exact wZ)
            -- false: is there a value; two goals: an error, none
            refine callG (hgc false) [0, 1, 2, 3, 4, 5, 6, 7, 8, 9, 10, 11, 12] rfl ⟨rfl, rfl, rfl, rfl, rfl, rfl, rfl, rfl, rfl, rfl, rfl, rfl, rfl, trivial⟩ rfl fun v' hv' => ?_
            generalize hG : giveS l W i false rest false (psOf at_ v g left) = q at *
            obtain ⟨s1, e⟩ := q
            have hat1 := give_at hG
            have hgr := give_grow (l := l) (W := W) (i := i) (no := false) (value := rest) (has := false) (s := psOf at_ v g left) (n := 1000000 - (word.length - k)) (fun j => by have := hv j; show (v j).xs.length ≤ _; omega)
            rw [hG] at hgr
            (first | refine wX ?_ | exact wZ)
            refine brd_ne (fun h4 => ?_) (fun h4 => ?_)
            · obtain rfl : (s1, e) = r := by
                rw [← he]
                exact (if_neg h4).symm
              (first | refine wX ?_ | exact wZ)
              exact ⟨v', hv', rfl, wkE_refl _, wkE_refl _, wkE_refl _, wkE_refl _, wkE_refl _, wkE_refl _, wkE_refl _, wkE_refl _, wkE_refl _, wkE_refl _, wkE_refl _, wkE_refl _, wkE_refl _, wkH_nil _⟩
            obtain rfl : e = 0 := h4
            (first | refine wX ?_ | exact wZ)
            have he2 : shortS l W rest s1 = r := he
            refine LdN.one (a := some ⟨kb, 0, none⟩) (q := 0) (.int .i64 (k : Int)) rfl (fun w hw => hw.2.2.2.2.2.2.2.2.2.2.2.2.2.2.1) rfl ?_
            ((conv => whnf); (repeat ((first | refine RwN.own ?_ | refine VrN.norm (wrap_i64 (by omega)) ?_ | refine VrN.keep ?_ | refine DrawN.calm (by decide +kernel) ?_ | refine Nd.mk (by decide +kernel) ?_ | refine Nd.mk (by omega) ?_ | (refine Nd.mk ?_ ?_; focus ((repeat' (first | exact trivial | exact wkE_refl _ | refine And.intro ?_ ?_)); done)) | refine RdN.intro _ rfl (by rfl) ?_); (conv => whnf))))
            refine BoxN.known _ rfl fun kb2 => ?_
            ((conv => whnf); (repeat ((first | refine RwN.own ?_ | refine VrN.norm (wrap_i64 (by omega)) ?_ | refine VrN.keep ?_ | refine DrawN.calm (by decide +kernel) ?_ | refine Nd.mk (by decide +kernel) ?_ | refine Nd.mk (by omega) ?_ | (refine Nd.mk ?_ ?_; focus ((repeat' (first | exact trivial | exact wkE_refl _ | refine And.intro ?_ ?_)); done)) | refine RdN.intro _ rfl (by rfl) ?_); (conv => whnf))))
            refine EffW.swp 14 15 rfl rfl rfl ?_
            refine EffW.appTo (i := 14) (q := 0) (ys := [_]) [.int .i64 (k : Int)] 1 rfl rfl rfl rfl rfl rfl rfl (Nat.le_of_ble_eq_true rfl) rfl rfl ?_
            (first | refine wX ?_ | exact wZ)
            refine LdN.one (a := some ⟨kb2, 0, none⟩) (q := 0) (.int .i64 (k : Int)) rfl (fun w hw => hw.2.2.2.2.2.2.2.2.2.2.2.2.2.2.1) rfl ?_
            (first | refine wX ?_ | exact wZ)
            refine EffW.appTo (i := 14) (q := 0) (ys := [_]) [.int .i64 ((k + 1 : Nat) : Int)] 1 rfl rfl rfl rfl rfl rfl rfl (Nat.le_of_ble_eq_true rfl) (by
              show [Value.int .i64 _] = [Value.int .i64 _]
              rw [wrap_i64 (by omega)]
              rfl) rfl ?_
            (first | refine wX ?_ | exact wZ)
            refine ⟨⟨k + 1, kb2, s1.at_, v', s1.given⟩, ⟨⟨by omega, by omega⟩, hat1.2.1 hat, by rw [hat1.2.2.2]; exact hg, fun j => ?_, ?_⟩, by show word.length - (k + 1) < word.length - k; omega, ?_, ⟨wkE_refl _, wkE_refl _, wkE_refl _, wkE_refl _, wkE_refl _, wkE_refl _, wkE_refl _, wkE_refl _, wkE_refl _, wkE_refl _, wkE_refl _, wkE_refl _, wkE_refl _, wkE_refl _, wkE_refl _, wkH_nil _⟩⟩
            · have := hgr j
              rw [hv' j]
              show (s1.vals j).length + _ ≤ _
              have h2 : (s1.vals j).length ≤ 1000000 - (word.length - k) + 1 := this
              omega
            · have hps : psOf s1.at_ v' s1.given left = s1 := ps_eq (fun j => hv' j) hat1.2.2.1
              rw [hps, hrest]
              exact he2
            · (repeat' (first | exact trivial | refine And.intro (by with_reducible rfl) ?_ | (with_reducible exact wkC_refl _) | (with_reducible exact wkCs_refl _) | refine And.intro ?_ ?_))
              all_goals rfl
          · rw [show (takesB 5 && rest != []) = false from rfl] at he
            -- 0: the field, .slice R.la l.length R.lc: the value
            refine LdN.one (a := some ⟨R.rb, 0, none⟩) (q := 0) (.slice R.la l.length R.lc) rfl (fun w hw => hw.2.1) rfl ?_
            (first | refine wX ?_ | exact wZ)
            refine Nd.mk ⟨hsa, by omega, by omega⟩ ?_
            (first | refine wX ?_ | exact wZ)
            refine LdN.fld (.int .i64 _) rfl (fun w hw => hw.1.1) (by rw [Int.toNat_natCast]; exact hkf) ?_
            (first | refine wX ?_ | exact wZ)
            -- 0: the field, .slice R.la l.length R.lc: the value
            refine LdN.one (a := some ⟨R.rb, 0, none⟩) (q := 0) (.slice R.la l.length R.lc) rfl (fun w hw => hw.2.1) rfl ?_
            (first | refine wX ?_ | exact wZ)
            refine Nd.mk ⟨hsa, by omega, by omega⟩ ?_
            (first | refine wX ?_ | exact wZ)
            refine LdN.fld (.int .i64 _) rfl (fun w hw => hw.1.1) (by rw [Int.toNat_natCast]; exact hkf) ?_
            (first | refine wX ?_ | exact wZ)
            -- false: is there a value; two goals: an error, none
            refine callG (hgc false) [0, 1, 2, 3, 4, 5, 6, 7, 8, 9, 10, 11, 12] rfl ⟨rfl, rfl, rfl, rfl, rfl, rfl, rfl, rfl, rfl, rfl, rfl, rfl, rfl, trivial⟩ rfl fun v' hv' => ?_
            generalize hG : giveS l W i false rest false (psOf at_ v g left) = q at *
            obtain ⟨s1, e⟩ := q
            have hat1 := give_at hG
            have hgr := give_grow (l := l) (W := W) (i := i) (no := false) (value := rest) (has := false) (s := psOf at_ v g left) (n := 1000000 - (word.length - k)) (fun j => by have := hv j; show (v j).xs.length ≤ _; omega)
            rw [hG] at hgr
            (first | refine wX ?_ | exact wZ)
            refine brd_ne (fun h4 => ?_) (fun h4 => ?_)
            · obtain rfl : (s1, e) = r := by
                rw [← he]
                exact (if_neg h4).symm
              (first | refine wX ?_ | exact wZ)
              exact ⟨v', hv', rfl, wkE_refl _, wkE_refl _, wkE_refl _, wkE_refl _, wkE_refl _, wkE_refl _, wkE_refl _, wkE_refl _, wkE_refl _, wkE_refl _, wkE_refl _, wkE_refl _, wkE_refl _, wkH_nil _⟩
            obtain rfl : e = 0 := h4
            (first | refine wX ?_ | exact wZ)
            have he2 : shortS l W rest s1 = r := he
            refine LdN.one (a := some ⟨kb, 0, none⟩) (q := 0) (.int .i64 (k : Int)) rfl (fun w hw => hw.2.2.2.2.2.2.2.2.2.2.2.2.2.2.1) rfl ?_
            ((conv => whnf); (repeat ((first | refine RwN.own ?_ | refine VrN.norm (wrap_i64 (by omega)) ?_ | refine VrN.keep ?_ | refine DrawN.calm (by decide +kernel) ?_ | refine Nd.mk (by decide +kernel) ?_ | refine Nd.mk (by omega) ?_ | (refine Nd.mk ?_ ?_; focus ((repeat' (first | exact trivial | exact wkE_refl _ | refine And.intro ?_ ?_)); done)) | refine RdN.intro _ rfl (by rfl) ?_); (conv => whnf))))
            refine BoxN.known _ rfl fun kb2 => ?_
            ((conv => whnf); (repeat ((first | refine RwN.own ?_ | refine VrN.norm (wrap_i64 (by omega)) ?_ | refine VrN.keep ?_ | refine DrawN.calm (by decide +kernel) ?_ | refine Nd.mk (by decide +kernel) ?_ | refine Nd.mk (by omega) ?_ | (refine Nd.mk ?_ ?_; focus ((repeat' (first | exact trivial | exact wkE_refl _ | refine And.intro ?_ ?_)); done)) | refine RdN.intro _ rfl (by rfl) ?_); (conv => whnf))))
            refine EffW.swp 14 15 rfl rfl rfl ?_
            refine EffW.appTo (i := 14) (q := 0) (ys := [_]) [.int .i64 (k : Int)] 1 rfl rfl rfl rfl rfl rfl rfl (Nat.le_of_ble_eq_true rfl) rfl rfl ?_
            (first | refine wX ?_ | exact wZ)
            refine LdN.one (a := some ⟨kb2, 0, none⟩) (q := 0) (.int .i64 (k : Int)) rfl (fun w hw => hw.2.2.2.2.2.2.2.2.2.2.2.2.2.2.1) rfl ?_
            (first | refine wX ?_ | exact wZ)
            refine EffW.appTo (i := 14) (q := 0) (ys := [_]) [.int .i64 ((k + 1 : Nat) : Int)] 1 rfl rfl rfl rfl rfl rfl rfl (Nat.le_of_ble_eq_true rfl) (by
              show [Value.int .i64 _] = [Value.int .i64 _]
              rw [wrap_i64 (by omega)]
              rfl) rfl ?_
            (first | refine wX ?_ | exact wZ)
            refine ⟨⟨k + 1, kb2, s1.at_, v', s1.given⟩, ⟨⟨by omega, by omega⟩, hat1.2.1 hat, by rw [hat1.2.2.2]; exact hg, fun j => ?_, ?_⟩, by show word.length - (k + 1) < word.length - k; omega, ?_, ⟨wkE_refl _, wkE_refl _, wkE_refl _, wkE_refl _, wkE_refl _, wkE_refl _, wkE_refl _, wkE_refl _, wkE_refl _, wkE_refl _, wkE_refl _, wkE_refl _, wkE_refl _, wkE_refl _, wkE_refl _, wkH_nil _⟩⟩
            · have := hgr j
              rw [hv' j]
              show (s1.vals j).length + _ ≤ _
              have h2 : (s1.vals j).length ≤ 1000000 - (word.length - k) + 1 := this
              omega
            · have hps : psOf s1.at_ v' s1.given left = s1 := ps_eq (fun j => hv' j) hat1.2.2.1
              rw [hps, hrest]
              exact he2
            · (repeat' (first | exact trivial | refine And.intro (by with_reducible rfl) ?_ | (with_reducible exact wkC_refl _) | (with_reducible exact wkCs_refl _) | refine And.intro ?_ ?_))
              all_goals rfl
  · have hkk : k = word.length := by omega
    rw [hkk, List.drop_length] at he
    obtain rfl : (psOf at_ v g left, 0) = r := he
    (first | refine wX ?_ | exact wZ)
    exact ⟨v, fun _ => rfl, rfl, wkE_refl _, wkE_refl _, wkE_refl _, wkE_refl _, wkE_refl _, wkE_refl _, wkE_refl _, wkE_refl _, wkE_refl _, wkE_refl _, wkE_refl _, wkE_refl _, wkE_refl _, wkH_nil _⟩
end Go.Proofs.YteljlkkppaobeaaGreatDoor

/-
  AX, forty-second text: the rest of a slice of anything.
-/
namespace Go.AX
theorem ReadW.slc_lo {P : Program} {o : Oper} {s : List AV} {H : List Ent} {K : AV → Prop} {t e : TypeId} {x y : Operand} {a : Option Addr} {n cap sz : Nat} {k : IntKind} {i : Int} {inf : TypeInfo} (j n' : Nat) (a' : Option Addr) (ho : o.op = .slice t x (some y) none none) (hu : P.underlying t = some (.slice e)) (hi : P.info? e = some inf) (hs : inf.size = sz)
    (hx : opv s x = .c (.v (.slice a n cap))) (hy : opv s y = .c (.v (.int k i))) (hj : i = (j : Int) ∧ j ≤ n ∧ n ≤ cap) (hn : n - j = n') (ha : (if cap = j then a else a.map (·.add (j * sz))) = a') (h : K (.c (.v (.slice a' n' (cap - j))))) : ReadW P o s H K := by
  obtain ⟨rfl, hjn, hnc⟩ := hj
  subst hn ha hs
  refine ReadW.val _ (fun cs b => by rw [ho]; simp) (by rw [ho]; simp [Op.operands, allPlain, hx, hy]) (fun w _ => ?_) h
  have e1 := plainEv_v hx
  have e2 := plainEv_v hy
  have : (Instr.sliceAt t (.slice a n cap) (some (.int k (j : Int))) none none).run P w = .ok (.slice (if cap = j then a else a.map (·.add (j * inf.size))) (n - j) (cap - j)) w := by
    simp [Instr.sliceAt, Instr.slice, run_underlying hu, Instr.sliceBounds, Instr.sliceBound, asIntOf, hjn, sizeOf, typeInfo, hi]
  refine run_op_slice ho ?_
  rw [e1]
  simpa [e2] using this
end Go.AX

/-
  Contract: read (program).
-/
namespace Go.Proofs.YteljlkkppaobeaaGreatDoor
open Go.AX Go.RowKit Go.Opts
set_option maxRecDepth 20000

theorem readS_step {l : List Opt} {W : List (List UInt8)} {m : Nat} {s : PS} {w : List UInt8} (h : W[s.at_]? = some w) : readS l W false (m + 1) s = match stepS l W false w s with
    | (s', e) => if e = 0 then readS l W false m s' else (s', s.at_, e) := by
  conv => lhs; unfold readS
  rw [h]
theorem readS_end {l : List Opt} {W : List (List UInt8)} {m : Nat} {s : PS} (h : W.length ≤ s.at_) : readS l W false m s = (s, 0, 0) := by
  cases m with
  | zero => rfl
  | succ m =>
    unfold readS
    rw [List.getElem?_eq_none h]
set_option maxHeartbeats 2000000 in
theorem read_c (R : RL) (l : List Opt) (W : List (List UInt8)) (at0_ : Nat) (v0 : Nat → VL) (g0 : List Int) (left0 : VL) (n0 : Nat) (ok : RdOk R l W) (hW200 : W.length ≤ 200) (hwc : W.length ≤ R.wc) (hWl : ∀ w ∈ W, w.length ≤ 4000) (hg0 : g0.length = l.length) (hat0 : at0_ ≤ W.length) (hv0 : ∀ j, (v0 j).xs.length ≤ at0_ * 4001) (hl0 : left0.xs.length ≤ at0_) (hc0 : left0.xs.length ≤ left0.c) (hn0 : W.length < n0 + at0_) :
    SpecH Tryz.prog 17 [.c (.v (.pointer (some ⟨R.rb, 0, none⟩))), .c (.v (.bool false))] (rdH R l W at0_ v0 g0 left0)
      (RetG (ι := (Nat → VL) × VL) (fun x => (∀ j, (x.1 j).xs = (readS l W false n0 (psOf at0_ v0 g0 left0)).1.vals j) ∧ x.2.xs = (readS l W false n0 (psOf at0_ v0 g0 left0)).1.left ∧ x.2.xs.length ≤ x.2.c) (fun _ => .tuple #[.int .i64 ((readS l W false n0 (psOf at0_ v0 g0 left0)).2.1 : Int), .int .i64 (readS l W false n0 (psOf at0_ v0 g0 left0)).2.2])
        fun x => rdH R l W (readS l W false n0 (psOf at0_ v0 g0 left0)).1.at_ x.1 (readS l W false n0 (psOf at0_ v0 g0 left0)).1.given x.2) := by
  refine ownC hm Tryz.func17 (by kernel_rfl) rfl rfl (fun _ _ => okHB_eq rfl) (fun _ _ => Nat.le_refl _) ?_
  generalize hR : readS l W false n0 (psOf at0_ v0 g0 left0) = r
  (first | refine wX ?_ | exact wZ)
  refine LoopN.intro (Nat × (Nat → VL) × List Int × VL × Nat) (fun ⟨at_, v, g, left, n⟩ => at_ ≤ W.length ∧ g.length = l.length ∧ (∀ j, (v j).xs.length ≤ at_ * 4001) ∧ left.xs.length ≤ at_ ∧ left.xs.length ≤ left.c ∧ W.length < n + at_ ∧ readS l W false n (psOf at_ v g left) = r)
    (fun ⟨_, _, _, _, _⟩ => mkS Tryz.f17.ntmps 0 [(0, .c (.v (.pointer (some ⟨R.rb, 0, none⟩)))), (1, .c (.v (.bool false))), (4, .c (.v (.int .i64 0))), (5, .c (.v (.int .i64 0)))])
    (fun ⟨at_, v, g, left, _⟩ => rdH R l W at_ v g left) (fun ⟨at_, _, _, _, _⟩ => W.length - at_) [] rfl (fun _ => rfl) (fun _ => rfl) (fun _ _ => okHB_eq rfl) ⟨⟨at0_, v0, g0, left0, n0⟩, ⟨hat0, hg0, hv0, hl0, hc0, hn0, hR⟩, ?_, ⟨wkE_refl _, wkE_refl _, wkE_refl _, wkE_refl _, wkE_refl _, wkE_refl _, wkE_refl _, wkE_refl _, wkE_refl _, wkE_refl _, wkE_refl _, wkE_refl _, wkE_refl _, wkH_nil _⟩⟩ ?_
  · (repeat' (first | exact trivial | refine And.intro (by with_reducible rfl) ?_ | (with_reducible exact wkC_refl _) | (with_reducible exact wkCs_refl _) | refine And.intro ?_ ?_))
    all_goals rfl
  rintro ⟨at_, v, g, left, n⟩ ⟨hat, hg, hv, hll, hlc, hn, he⟩
  (first | refine wX ?_ | exact wZ)
  -- 2: the field, .int .i64 (at_ : Int): the value
  refine LdN.one (a := some ⟨R.rb, 0, none⟩) (q := 2) (.int .i64 (at_ : Int)) rfl (fun w hw => hw.2.1) rfl ?_
  (first | refine wX ?_ | exact wZ)
  -- 1: the field, .slice R.wa W.length R.wc: the value
  refine LdN.one (a := some ⟨R.rb, 0, none⟩) (q := 1) (.slice R.wa W.length R.wc) rfl (fun w hw => hw.2.1) rfl ?_
  (first | refine wX ?_ | exact wZ)
  refine brd_dec (fun h1 => ?_) (fun h1 => ?_)
  · obtain ⟨word, hw⟩ : ∃ w, W[at_]? = some w := ⟨_, List.getElem?_eq_getElem (by omega)⟩
    have hwl := hWl word (List.mem_of_getElem? hw)
    have hz := bs_size word
    have hsa : R.wa.isSome = true := by
      cases hr : R.wa with
      | none => rw [ok.wa hr] at hw; cases hw
      | some b => rfl
    obtain ⟨m, rfl⟩ : ∃ k, n = k + 1 := ⟨n - 1, by omega⟩
    rw [readS_step (s := psOf at_ v g left) hw] at he
    have hat200 : at_ * 4001 ≤ 199 * 4001 := Nat.mul_le_mul_right _ (by omega)
    (first | refine wX ?_ | exact wZ)
    -- 2: the field, .int .i64 (at_ : Int): the value
    refine LdN.one (a := some ⟨R.rb, 0, none⟩) (q := 2) (.int .i64 (at_ : Int)) rfl (fun w hw => hw.2.1) rfl ?_
    (first | refine wX ?_ | exact wZ)
    -- 1: the field, .slice R.wa W.length R.wc: the value
    refine LdN.one (a := some ⟨R.rb, 0, none⟩) (q := 1) (.slice R.wa W.length R.wc) rfl (fun w hw => hw.2.1) rfl ?_
    (first | refine wX ?_ | exact wZ)
    refine Nd.mk ⟨hsa, by omega, by omega⟩ ?_
    (first | refine wX ?_ | exact wZ)
    refine LdN.one (.string (bs word)) rfl (fun w hw => hw.1.2.1) (by rw [Int.toNat_natCast]; show (strC W)[at_ * 1]? = _; rw [Nat.mul_one]; exact strC_get hw) ?_
    (first | refine wX ?_ | exact wZ)
    -- 2: the field, .int .i64 (at_ : Int): the value
    refine LdN.one (a := some ⟨R.rb, 0, none⟩) (q := 2) (.int .i64 (at_ : Int)) rfl (fun w hw => hw.2.1) rfl ?_
    (first | refine wX ?_ | exact wZ)
    refine EffW.appTo (i := 1) (q := 2) (ys := [_]) (rC R l.length W.length (at_ + 1) left) 6 rfl rfl rfl rfl rfl rfl rfl (Nat.le_of_ble_eq_true rfl) (by
      show [_, _, Value.int .i64 _, _, _, _] = [_, _, Value.int .i64 _, _, _, _]
      rw [wrap_i64 (by omega)]
      rfl) rfl ?_
    (first | refine wX ?_ | exact wZ)
    rw [show ((bs word).data.toList == (⟨#[45, 45]⟩ : ByteArray).data.toList) = (word == [45, 45]) by rw [bs_list]]
    cases hb : word == [45, 45] with
    | true =>
      have hst : stepS l W false word (psOf at_ v g left) = ({ psOf at_ v g left with at_ := W.length, left := left.xs ++ W.drop (at_ + 1) }, 0) := by
        unfold stepS
        rw [if_pos hb]
        rfl
      (first | refine wX ?_ | exact wZ)
      refine DrawN.plan [0, 1, 6, 10] [(2, 1), (3, 1), (4, 1), (5, 1), (7, 1), (8, 1), (9, 1), (11, 1), (12, 1), (13, 1), (14, 1)] [(15, 0), (16, 0), (17, 0), (18, 0), (19, 0)] (by decide +kernel) ?_
      (first | refine wX ?_ | exact wZ)
      -- 5: the field, vlV left: the value
      refine LdN.one (a := some ⟨R.rb, 0, none⟩) (q := 5) (vlV left) rfl (fun w hw => hw.2.1) rfl ?_
      (first | refine wX ?_ | exact wZ)
      -- 1: the field, .slice R.wa W.length R.wc: the value
      refine LdN.one (a := some ⟨R.rb, 0, none⟩) (q := 1) (.slice R.wa W.length R.wc) rfl (fun w hw => hw.2.1) rfl ?_
      (first | refine wX ?_ | exact wZ)
      -- 2: the field, .int .i64 ((at_ + 1 : Nat) : Int): the value
      refine LdN.one (a := some ⟨R.rb, 0, none⟩) (q := 2) (.int .i64 ((at_ + 1 : Nat) : Int)) rfl (fun w hw => hw.2.1) rfl ?_
      (first | refine wX ?_ | exact wZ)
      by_cases hm0 : W.length = at_ + 1
      · refine ReadW.slc_lo (sz := 1) (at_ + 1) 0 _ rfl Tryz.underlying22 rfl rfl rfl rfl ⟨rfl, by omega, hwc⟩ (by omega) rfl ?_
        have hdr : W.drop (at_ + 1) = [] := List.drop_of_length_le (by omega)
        rw [hdr, List.append_nil] at hst
        (conv => whnf)
        refine Nd.mk hlc ?_
        (first | refine wX ?_ | exact wZ)
        refine EffW.appTo (i := 1) (q := 5) (ys := [_]) (rC R l.length W.length (at_ + 1) left) 6 rfl rfl rfl rfl rfl rfl rfl (Nat.le_of_ble_eq_true rfl) rfl rfl ?_
        (first | refine wX ?_ | exact wZ)
        -- 1: the field, .slice R.wa W.length R.wc: the value
        refine LdN.one (a := some ⟨R.rb, 0, none⟩) (q := 1) (.slice R.wa W.length R.wc) rfl (fun w hw => hw.2.1) rfl ?_
        (first | refine wX ?_ | exact wZ)
        refine EffW.appTo (i := 1) (q := 2) (ys := [_]) (rC R l.length W.length W.length left) 6 rfl rfl rfl rfl rfl rfl rfl (Nat.le_of_ble_eq_true rfl) rfl rfl ?_
        (first | refine wX ?_ | exact wZ)
        -- the same where there is no error; wkE_refl _, wkE_refl _, wkE_refl _, wkE_refl _, wkE_refl _, wkE_refl _, wkE_refl _, wkE_refl _, wkE_refl _, wkE_refl _, wkE_refl _, wkE_refl _, wkE_refl _, wkH_nil _: the entries, ({ psOf at_ v g left with at_ := W.length, left := left.xs } : PS): the state, left: what is left, hlc: its length
        have hsa1 := step_at (by show at_ < W.length; omega) hst
        have hgr1 := step_grow (l := l) (W := W) (stop := false) (w := word) (s := psOf at_ v g left) (n := at_ * 4001) (fun j => hv j)
        rw [hst] at hgr1
        rw [hst] at he
        have hlc' : (left : VL).xs.length ≤ (left : VL).c := hlc
        have he2 : readS l W false m ({ psOf at_ v g left with at_ := W.length, left := left.xs } : PS) = r := he
        have hps : psOf ({ psOf at_ v g left with at_ := W.length, left := left.xs } : PS).at_ v ({ psOf at_ v g left with at_ := W.length, left := left.xs } : PS).given left = ({ psOf at_ v g left with at_ := W.length, left := left.xs } : PS) := ps_eq (r := ({ psOf at_ v g left with at_ := W.length, left := left.xs } : PS)) (v' := v) (left := left) (fun _ => rfl) (by exact Eq.symm (rfl))
        refine ⟨⟨({ psOf at_ v g left with at_ := W.length, left := left.xs } : PS).at_, v, ({ psOf at_ v g left with at_ := W.length, left := left.xs } : PS).given, left, m⟩, ⟨hsa1.2.1, by rw [hsa1.2.2.1]; exact hg, fun j => ?_, (by have h9 := hsa1.2.2.2 hll; have h8 : (left : VL).xs = ({ psOf at_ v g left with at_ := W.length, left := left.xs } : PS).left := rfl; rw [h8]; exact h9), hlc', by have h9 : at_ < ({ psOf at_ v g left with at_ := W.length, left := left.xs } : PS).at_ := hsa1.1; omega, by rw [hps]; exact he2⟩, by have h9 : at_ < ({ psOf at_ v g left with at_ := W.length, left := left.xs } : PS).at_ := hsa1.1; have h8 : ({ psOf at_ v g left with at_ := W.length, left := left.xs } : PS).at_ ≤ W.length := hsa1.2.1; show W.length - ({ psOf at_ v g left with at_ := W.length, left := left.xs } : PS).at_ < W.length - at_; omega, ?_, ⟨wkE_refl _, wkE_refl _, wkE_refl _, wkE_refl _, wkE_refl _, wkE_refl _, wkE_refl _, wkE_refl _, wkE_refl _, wkE_refl _, wkE_refl _, wkE_refl _, wkE_refl _, wkH_nil _⟩⟩
        · have h7 := hgr1 j
          have h3 : (v j).xs = ({ psOf at_ v g left with at_ := W.length, left := left.xs } : PS).vals j := (fun _ => rfl) j
          rw [h3]
          have h9 : at_ < ({ psOf at_ v g left with at_ := W.length, left := left.xs } : PS).at_ := hsa1.1
          have h6 : (({ psOf at_ v g left with at_ := W.length, left := left.xs } : PS).vals j).length ≤ at_ * 4001 + (word.length + 1) := h7
          have h5 : (at_ + 1) * 4001 ≤ ({ psOf at_ v g left with at_ := W.length, left := left.xs } : PS).at_ * 4001 := Nat.mul_le_mul_right _ h9
          omega
        · (repeat' (first | exact trivial | refine And.intro (by with_reducible rfl) ?_ | (with_reducible exact wkC_refl _) | (with_reducible exact wkCs_refl _) | refine And.intro ?_ ?_))
          all_goals rfl
      · obtain ⟨k, hk⟩ : ∃ k, W.length - (at_ + 1) = k + 1 := ⟨W.length - (at_ + 1) - 1, by omega⟩
        obtain ⟨x, hx⟩ := Option.isSome_iff_exists.1 hsa
        rw [hx]
        refine ReadW.slc_lo (sz := 1) (at_ + 1) (k + 1) (some (x.add (at_ + 1))) rfl Tryz.underlying22 rfl rfl rfl rfl ⟨rfl, by omega, hwc⟩ hk (by rw [if_neg (by omega), Nat.mul_one]; rfl) ?_
        have hdl : (W.drop (at_ + 1)).length = k + 1 := by rw [List.length_drop]; exact hk
        generalize hD : W.drop (at_ + 1) = D at *
        (conv => whnf)
        try refine Nd.mk rfl ?_
        (conv => whnf)
        refine ApN.intro (strC D) (by show _ = (k + 1) * 1; simp [strC, hdl]) (fun u hu => by obtain ⟨c, _, rfl⟩ := List.mem_map.1 hu; rfl) (fun w hw j u hj => by
          have h1 := hw.1.2.1.2.2
          have hjl : j < k + 1 := by
            have := (List.getElem?_eq_some_iff.1 hj).1
            rw [← hdl]
            simpa [strC] using this
          have h2 := h1 (at_ + 1 + j) (by omega)
          rw [hx] at h2
          show w.cell? ((x.add (at_ + 1)).add j) = _
          rw [Addr.add_add]
          refine h2.trans ?_
          rw [← hj, ← hD]
          simp [strC, List.map_drop, List.getElem?_drop]) ?_
        (conv => whnf)
        refine AppN.grow 4 (strC left.xs) (strC D) rfl (plains_vs _) ⟨by omega, ⟨by show (left.xs.length + (k + 1)) * 16 ≤ _; omega, by show left.xs.length + (k + 1) < _; omega⟩, Nat.one_ne_zero⟩ fun b1 c1 h11 h12 => ?_
        (first | refine wX ?_ | exact wZ)
        have hll2 : (left.xs ++ D).length = left.xs.length + (k + 1) := by rw [List.length_append, hdl]
        refine EffW.appTo (i := 1) (q := 5) (ys := [_]) (rC R l.length W.length (at_ + 1) ⟨left.xs ++ D, some b1, c1⟩) 6 rfl rfl rfl rfl rfl rfl rfl (Nat.le_of_ble_eq_true rfl) (by
          show [_, _, _, _, _, Value.slice _ (left.xs.length + (k + 1)) _] = [_, _, _, _, _, Value.slice _ (left.xs ++ D).length _]
          rw [hll2]
          rfl) rfl ?_
        (first | refine wX ?_ | exact wZ)
        -- 1: the field, .slice R.wa W.length R.wc: the value
        refine LdN.one (a := some ⟨R.rb, 0, none⟩) (q := 1) (.slice R.wa W.length R.wc) rfl (fun w hw => hw.2.1) rfl ?_
        (first | refine wX ?_ | exact wZ)
        refine EffW.appTo (i := 1) (q := 2) (ys := [_]) (rC R l.length W.length W.length ⟨left.xs ++ D, some b1, c1⟩) 6 rfl rfl rfl rfl rfl rfl rfl (Nat.le_of_ble_eq_true rfl) rfl rfl ?_
        (first | refine wX ?_ | exact wZ)
        have hsn : strC left.xs ++ strC D = strC (left.xs ++ D) := by simp [strC]
        -- the same where there is no error; wkE_refl _, wkE_refl _, wkE_refl _, wkE_refl _, .inl ⟨rfl, rfl, hsn, rfl, hll2.symm, rfl⟩, wkE_refl _, wkE_refl _, wkE_refl _, wkE_refl _, wkE_refl _, wkE_refl _, wkE_refl _, wkE_refl _, wkH_nil _: the entries, ({ psOf at_ v g left with at_ := W.length, left := left.xs ++ D } : PS): the state, ⟨left.xs ++ D, some b1, c1⟩: what is left, by rw [hll2]; exact h11: its length
        have hsa1 := step_at (by show at_ < W.length; omega) hst
        have hgr1 := step_grow (l := l) (W := W) (stop := false) (w := word) (s := psOf at_ v g left) (n := at_ * 4001) (fun j => hv j)
        rw [hst] at hgr1
        rw [hst] at he
        have hlc' : (⟨left.xs ++ D, some b1, c1⟩ : VL).xs.length ≤ (⟨left.xs ++ D, some b1, c1⟩ : VL).c := by rw [hll2]; exact h11
        have he2 : readS l W false m ({ psOf at_ v g left with at_ := W.length, left := left.xs ++ D } : PS) = r := he
        have hps : psOf ({ psOf at_ v g left with at_ := W.length, left := left.xs ++ D } : PS).at_ v ({ psOf at_ v g left with at_ := W.length, left := left.xs ++ D } : PS).given ⟨left.xs ++ D, some b1, c1⟩ = ({ psOf at_ v g left with at_ := W.length, left := left.xs ++ D } : PS) := ps_eq (r := ({ psOf at_ v g left with at_ := W.length, left := left.xs ++ D } : PS)) (v' := v) (left := ⟨left.xs ++ D, some b1, c1⟩) (fun _ => rfl) (by exact Eq.symm (rfl))
        refine ⟨⟨({ psOf at_ v g left with at_ := W.length, left := left.xs ++ D } : PS).at_, v, ({ psOf at_ v g left with at_ := W.length, left := left.xs ++ D } : PS).given, ⟨left.xs ++ D, some b1, c1⟩, m⟩, ⟨hsa1.2.1, by rw [hsa1.2.2.1]; exact hg, fun j => ?_, (by have h9 := hsa1.2.2.2 hll; have h8 : (⟨left.xs ++ D, some b1, c1⟩ : VL).xs = ({ psOf at_ v g left with at_ := W.length, left := left.xs ++ D } : PS).left := rfl; rw [h8]; exact h9), hlc', by have h9 : at_ < ({ psOf at_ v g left with at_ := W.length, left := left.xs ++ D } : PS).at_ := hsa1.1; omega, by rw [hps]; exact he2⟩, by have h9 : at_ < ({ psOf at_ v g left with at_ := W.length, left := left.xs ++ D } : PS).at_ := hsa1.1; have h8 : ({ psOf at_ v g left with at_ := W.length, left := left.xs ++ D } : PS).at_ ≤ W.length := hsa1.2.1; show W.length - ({ psOf at_ v g left with at_ := W.length, left := left.xs ++ D } : PS).at_ < W.length - at_; omega, ?_, ⟨wkE_refl _, wkE_refl _, wkE_refl _, wkE_refl _, .inl ⟨rfl, rfl, hsn, rfl, hll2.symm, rfl⟩, wkE_refl _, wkE_refl _, wkE_refl _, wkE_refl _, wkE_refl _, wkE_refl _, wkE_refl _, wkE_refl _, wkH_nil _⟩⟩
        · have h7 := hgr1 j
          have h3 : (v j).xs = ({ psOf at_ v g left with at_ := W.length, left := left.xs ++ D } : PS).vals j := (fun _ => rfl) j
          rw [h3]
          have h9 : at_ < ({ psOf at_ v g left with at_ := W.length, left := left.xs ++ D } : PS).at_ := hsa1.1
          have h6 : (({ psOf at_ v g left with at_ := W.length, left := left.xs ++ D } : PS).vals j).length ≤ at_ * 4001 + (word.length + 1) := h7
          have h5 : (at_ + 1) * 4001 ≤ ({ psOf at_ v g left with at_ := W.length, left := left.xs ++ D } : PS).at_ * 4001 := Nat.mul_le_mul_right _ h9
          omega
        · (repeat' (first | exact trivial | refine And.intro (by with_reducible rfl) ?_ | (with_reducible exact wkC_refl _) | (with_reducible exact wkCs_refl _) | refine And.intro ?_ ?_))
          all_goals rfl
    | false =>
      (first | refine wX ?_ | exact wZ)
      rw [show (⟨#[45, 45]⟩ : ByteArray) = bs [45, 45] from rfl]
      refine call1 (HasPrefix_c word [45, 45] _) ?_
      cases hp : ([45, 45] : List UInt8).isPrefixOf word with
      | true =>
        have hst0 : stepS l W false word (psOf at_ v g left) = longS l W word (psOf (at_ + 1) v g left) := by
          unfold stepS
          rw [if_neg (by rw [hb]; simp), if_pos hp]
          rfl
        have h2 : 2 ≤ word.length := by
          have := (List.isPrefixOf_iff_prefix.1 hp).length_le
          exact this
        have hlr := long_at (s := psOf (at_ + 1) v g left) (l := l) (W := W) (w := word) (s' := (longS l W word (psOf (at_ + 1) v g left)).1) (e := (longS l W word (psOf (at_ + 1) v g left)).2) rfl
        (first | refine wX ?_ | exact wZ)
        refine callG (long_c R l W (at_ + 1) v g left word ok hg (by omega) (fun j => by have := hv j; omega) h2 (by omega)) [0, 1, 2, 3, 4, 5, 6, 7, 8, 9, 10, 11, 12] rfl ⟨rfl, rfl, rfl, rfl, rfl, rfl, rfl, rfl, rfl, rfl, rfl, rfl, rfl, trivial⟩ rfl fun v' hv' => ?_
        generalize longS l W word (psOf (at_ + 1) v g left) = q at *
        obtain ⟨s1, e⟩ := q
        have hst := hst0
        obtain ⟨left', hle⟩ : ∃ x, x = left := ⟨_, rfl⟩
        have hln : left'.xs = s1.left := by rw [hle]; exact hlr.2.2.1.symm
        have hlc' : left'.xs.length ≤ left'.c := by rw [hle]; exact hlc
        rw [← hle]
        (first | refine wX ?_ | exact wZ)
        -- hst: what the step gives (s1, e), hvl: what lies there (v', left'), hln: left'
        have hsa1 := step_at (by show at_ < W.length; omega) hst
        have hgr1 := step_grow (l := l) (W := W) (stop := false) (w := word) (s := psOf at_ v g left) (n := at_ * 4001) (fun j => hv j)
        rw [hst] at hgr1
        rw [hst] at he
        refine brd_ne (fun h4 => ?_) (fun h4 => ?_)
        · obtain rfl : (s1, at_, e) = r := by
            rw [← he]
            exact (if_neg h4).symm
          (first | refine wX ?_ | exact wZ)
          exact ⟨(v', left'), ⟨hv', hln, hlc'⟩, rfl, wkE_refl _, wkE_refl _, wkE_refl _, wkE_refl _, wkE_refl _, wkE_refl _, wkE_refl _, wkE_refl _, wkE_refl _, wkE_refl _, wkE_refl _, wkE_refl _, wkE_refl _, wkH_nil _⟩
        obtain rfl : e = 0 := h4
        (first | refine wX ?_ | exact wZ)
        have he2 : readS l W false m s1 = r := he
        have hps : psOf s1.at_ v' s1.given left' = s1 := ps_eq (r := s1) (v' := v') (left := left') (hv') (by exact Eq.symm (hln))
        refine ⟨⟨s1.at_, v', s1.given, left', m⟩, ⟨hsa1.2.1, by rw [hsa1.2.2.1]; exact hg, fun j => ?_, (by have h9 := hsa1.2.2.2 hll; have h8 : (left' : VL).xs = s1.left := hln; rw [h8]; exact h9), hlc', by have h9 : at_ < s1.at_ := hsa1.1; omega, by rw [hps]; exact he2⟩, by have h9 : at_ < s1.at_ := hsa1.1; have h8 : s1.at_ ≤ W.length := hsa1.2.1; show W.length - s1.at_ < W.length - at_; omega, ?_, ⟨wkE_refl _, wkE_refl _, wkE_refl _, wkE_refl _, wkE_refl _, wkE_refl _, wkE_refl _, wkE_refl _, wkE_refl _, wkE_refl _, wkE_refl _, wkE_refl _, wkE_refl _, wkH_nil _⟩⟩
        · have h7 := hgr1 j
          have h3 : (v' j).xs = s1.vals j := (hv') j
          rw [h3]
          have h9 : at_ < s1.at_ := hsa1.1
          have h6 : (s1.vals j).length ≤ at_ * 4001 + (word.length + 1) := h7
          have h5 : (at_ + 1) * 4001 ≤ s1.at_ * 4001 := Nat.mul_le_mul_right _ h9
          omega
        · (repeat' (first | exact trivial | refine And.intro (by with_reducible rfl) ?_ | (with_reducible exact wkC_refl _) | (with_reducible exact wkCs_refl _) | refine And.intro ?_ ?_))
          all_goals rfl
      | false =>
        obtain ⟨c, hc⟩ : ∃ c, word.head? = c := ⟨_, rfl⟩
        (first | refine wX ?_ | exact wZ)
        rw [hz]
        refine brd_dec (fun h6 => ?_) (fun h6 => ?_)
        · obtain ⟨c, hc⟩ : ∃ c, word[0]? = some c := ⟨_, List.getElem?_eq_getElem (by omega)⟩
          have hpc : ([45] : List UInt8).isPrefixOf word = (c == 45) := by
            cases word with
            | nil => cases hc
            | cons d r =>
              cases hc
              show (45 == c && true) = (c == 45)
              rw [Bool.and_true, Bool.eq_iff_iff, beq_iff_eq, beq_iff_eq]
              exact ⟨Eq.symm, Eq.symm⟩
          (first | refine wX ?_ | exact wZ)
          rw [show byteAt (bs word) (Int.toNat 0) = (c.toNat : Int) from byteAt_get hc, show ((c.toNat : Int) == 45) = (c == 45) from u8_eq (n := 45) (by decide)]
          cases h45 : c == 45 with
          | true =>
            have hst0 : stepS l W false word (psOf at_ v g left) = shortS l W (word.drop 1) (psOf (at_ + 1) v g left) := by
              unfold stepS
              rw [if_neg (by rw [hb]; simp), if_neg (by rw [hp]; simp), if_pos (by rw [hpc, h45, decide_eq_true (by omega)]; rfl)]
              rfl
            have hlr := short_at (s := psOf (at_ + 1) v g left) (l := l) (W := W) (cs := word.drop 1) (s' := (shortS l W (word.drop 1) (psOf (at_ + 1) v g left)).1) (e := (shortS l W (word.drop 1) (psOf (at_ + 1) v g left)).2) rfl
            (first | refine wX ?_ | exact wZ)
            refine callG (short_c R l W (at_ + 1) v g left word ok hg (by omega) (fun j => by have := hv j; omega) (by omega)) [0, 1, 2, 3, 4, 5, 6, 7, 8, 9, 10, 11, 12] rfl ⟨rfl, rfl, rfl, rfl, rfl, rfl, rfl, rfl, rfl, rfl, rfl, rfl, rfl, trivial⟩ rfl fun v' hv' => ?_
            generalize shortS l W (word.drop 1) (psOf (at_ + 1) v g left) = q at *
            obtain ⟨s1, e⟩ := q
            have hst := hst0
            obtain ⟨left', hle⟩ : ∃ x, x = left := ⟨_, rfl⟩
            have hln : left'.xs = s1.left := by rw [hle]; exact hlr.2.2.1.symm
            have hlc' : left'.xs.length ≤ left'.c := by rw [hle]; exact hlc
            rw [← hle]
            (first | refine wX ?_ | exact wZ)
            -- hst: what the step gives (s1, e), hvl: what lies there (v', left'), hln: left'
            have hsa1 := step_at (by show at_ < W.length; omega) hst
            have hgr1 := step_grow (l := l) (W := W) (stop := false) (w := word) (s := psOf at_ v g left) (n := at_ * 4001) (fun j => hv j)
            rw [hst] at hgr1
            rw [hst] at he
            refine brd_ne (fun h4 => ?_) (fun h4 => ?_)
            · obtain rfl : (s1, at_, e) = r := by
                rw [← he]
                exact (if_neg h4).symm
              (first | refine wX ?_ | exact wZ)
              exact ⟨(v', left'), ⟨hv', hln, hlc'⟩, rfl, wkE_refl _, wkE_refl _, wkE_refl _, wkE_refl _, wkE_refl _, wkE_refl _, wkE_refl _, wkE_refl _, wkE_refl _, wkE_refl _, wkE_refl _, wkE_refl _, wkE_refl _, wkH_nil _⟩
            obtain rfl : e = 0 := h4
            (first | refine wX ?_ | exact wZ)
            have he2 : readS l W false m s1 = r := he
            have hps : psOf s1.at_ v' s1.given left' = s1 := ps_eq (r := s1) (v' := v') (left := left') (hv') (by exact Eq.symm (hln))
            refine ⟨⟨s1.at_, v', s1.given, left', m⟩, ⟨hsa1.2.1, by rw [hsa1.2.2.1]; exact hg, fun j => ?_, (by have h9 := hsa1.2.2.2 hll; have h8 : (left' : VL).xs = s1.left := hln; rw [h8]; exact h9), hlc', by have h9 : at_ < s1.at_ := hsa1.1; omega, by rw [hps]; exact he2⟩, by have h9 : at_ < s1.at_ := hsa1.1; have h8 : s1.at_ ≤ W.length := hsa1.2.1; show W.length - s1.at_ < W.length - at_; omega, ?_, ⟨wkE_refl _, wkE_refl _, wkE_refl _, wkE_refl _, wkE_refl _, wkE_refl _, wkE_refl _, wkE_refl _, wkE_refl _, wkE_refl _, wkE_refl _, wkE_refl _, wkE_refl _, wkH_nil _⟩⟩
            · have h7 := hgr1 j
              have h3 : (v' j).xs = s1.vals j := (hv') j
              rw [h3]
              have h9 : at_ < s1.at_ := hsa1.1
              have h6 : (s1.vals j).length ≤ at_ * 4001 + (word.length + 1) := h7
              have h5 : (at_ + 1) * 4001 ≤ s1.at_ * 4001 := Nat.mul_le_mul_right _ h9
              omega
            · (repeat' (first | exact trivial | refine And.intro (by with_reducible rfl) ?_ | (with_reducible exact wkC_refl _) | (with_reducible exact wkCs_refl _) | refine And.intro ?_ ?_))
              all_goals rfl
          | false =>
            have hst : stepS l W false word (psOf at_ v g left) = ({ psOf at_ v g left with at_ := at_ + 1, left := left.xs ++ [word] }, 0) := by
              unfold stepS
              rw [if_neg (by rw [hb]; simp), if_neg (by rw [hp]; simp), if_neg (by rw [hpc, h45]; simp)]
              rfl
            (first | refine wX ?_ | exact wZ)
            -- 5: the field, vlV left: the value
            refine LdN.one (a := some ⟨R.rb, 0, none⟩) (q := 5) (vlV left) rfl (fun w hw => hw.2.1) rfl ?_
            (first | refine wX ?_ | exact wZ)
            try refine Nd.mk ⟨Nat.le_refl 1, rfl, rfl⟩ ?_
            (conv => whnf)
            refine AppN.grow 4 (strC left.xs) [.string (bs word)] rfl rfl ⟨Nat.le_refl 1, ⟨by show (left.xs.length + 1) * 16 ≤ _; omega, by show left.xs.length + 1 < _; omega⟩, Nat.one_ne_zero⟩ fun b1 c1 h11 h12 => ?_
            (first | refine wX ?_ | exact wZ)
            have hll2 : (left.xs ++ [word]).length = left.xs.length + 1 := by simp
            refine EffW.appTo (i := 1) (q := 5) (ys := [_]) (rC R l.length W.length (at_ + 1) ⟨left.xs ++ [word], some b1, c1⟩) 6 rfl rfl rfl rfl rfl rfl rfl (Nat.le_of_ble_eq_true rfl) (by
              show [_, _, _, _, _, Value.slice _ (left.xs.length + 1) _] = [_, _, _, _, _, Value.slice _ (left.xs ++ [word]).length _]
              rw [hll2]
              rfl) rfl ?_
            (first | refine wX ?_ | exact wZ)
            -- the same where there is no error; wkE_refl _, wkE_refl _, wkE_refl _, wkE_refl _, .inl ⟨rfl, rfl, strC_snoc _ _, rfl, hll2.symm, rfl⟩, wkE_refl _, wkE_refl _, wkE_refl _, wkE_refl _, wkE_refl _, wkE_refl _, wkE_refl _, wkE_refl _, wkH_nil _: the entries, ({ psOf at_ v g left with at_ := at_ + 1, left := left.xs ++ [word] } : PS): the state, ⟨left.xs ++ [word], some b1, c1⟩: what is left, by rw [hll2]; exact h11: its length
            have hsa1 := step_at (by show at_ < W.length; omega) hst
            have hgr1 := step_grow (l := l) (W := W) (stop := false) (w := word) (s := psOf at_ v g left) (n := at_ * 4001) (fun j => hv j)
            rw [hst] at hgr1
            rw [hst] at he
            have hlc' : (⟨left.xs ++ [word], some b1, c1⟩ : VL).xs.length ≤ (⟨left.xs ++ [word], some b1, c1⟩ : VL).c := by rw [hll2]; exact h11
            have he2 : readS l W false m ({ psOf at_ v g left with at_ := at_ + 1, left := left.xs ++ [word] } : PS) = r := he
            have hps : psOf ({ psOf at_ v g left with at_ := at_ + 1, left := left.xs ++ [word] } : PS).at_ v ({ psOf at_ v g left with at_ := at_ + 1, left := left.xs ++ [word] } : PS).given ⟨left.xs ++ [word], some b1, c1⟩ = ({ psOf at_ v g left with at_ := at_ + 1, left := left.xs ++ [word] } : PS) := ps_eq (r := ({ psOf at_ v g left with at_ := at_ + 1, left := left.xs ++ [word] } : PS)) (v' := v) (left := ⟨left.xs ++ [word], some b1, c1⟩) (fun _ => rfl) (by exact Eq.symm (rfl))
            refine ⟨⟨({ psOf at_ v g left with at_ := at_ + 1, left := left.xs ++ [word] } : PS).at_, v, ({ psOf at_ v g left with at_ := at_ + 1, left := left.xs ++ [word] } : PS).given, ⟨left.xs ++ [word], some b1, c1⟩, m⟩, ⟨hsa1.2.1, by rw [hsa1.2.2.1]; exact hg, fun j => ?_, (by have h9 := hsa1.2.2.2 hll; have h8 : (⟨left.xs ++ [word], some b1, c1⟩ : VL).xs = ({ psOf at_ v g left with at_ := at_ + 1, left := left.xs ++ [word] } : PS).left := rfl; rw [h8]; exact h9), hlc', by have h9 : at_ < ({ psOf at_ v g left with at_ := at_ + 1, left := left.xs ++ [word] } : PS).at_ := hsa1.1; omega, by rw [hps]; exact he2⟩, by have h9 : at_ < ({ psOf at_ v g left with at_ := at_ + 1, left := left.xs ++ [word] } : PS).at_ := hsa1.1; have h8 : ({ psOf at_ v g left with at_ := at_ + 1, left := left.xs ++ [word] } : PS).at_ ≤ W.length := hsa1.2.1; show W.length - ({ psOf at_ v g left with at_ := at_ + 1, left := left.xs ++ [word] } : PS).at_ < W.length - at_; omega, ?_, ⟨wkE_refl _, wkE_refl _, wkE_refl _, wkE_refl _, .inl ⟨rfl, rfl, strC_snoc _ _, rfl, hll2.symm, rfl⟩, wkE_refl _, wkE_refl _, wkE_refl _, wkE_refl _, wkE_refl _, wkE_refl _, wkE_refl _, wkE_refl _, wkH_nil _⟩⟩
            · have h7 := hgr1 j
              have h3 : (v j).xs = ({ psOf at_ v g left with at_ := at_ + 1, left := left.xs ++ [word] } : PS).vals j := (fun _ => rfl) j
              rw [h3]
              have h9 : at_ < ({ psOf at_ v g left with at_ := at_ + 1, left := left.xs ++ [word] } : PS).at_ := hsa1.1
              have h6 : (({ psOf at_ v g left with at_ := at_ + 1, left := left.xs ++ [word] } : PS).vals j).length ≤ at_ * 4001 + (word.length + 1) := h7
              have h5 : (at_ + 1) * 4001 ≤ ({ psOf at_ v g left with at_ := at_ + 1, left := left.xs ++ [word] } : PS).at_ * 4001 := Nat.mul_le_mul_right _ h9
              omega
            · (repeat' (first | exact trivial | refine And.intro (by with_reducible rfl) ?_ | (with_reducible exact wkC_refl _) | (with_reducible exact wkCs_refl _) | refine And.intro ?_ ?_))
              all_goals rfl
        · have hst : stepS l W false word (psOf at_ v g left) = ({ psOf at_ v g left with at_ := at_ + 1, left := left.xs ++ [word] }, 0) := by
            unfold stepS
            rw [if_neg (by rw [hb]; simp), if_neg (by rw [hp]; simp), if_neg (by rw [decide_eq_false (by omega)]; simp)]
            rfl
          (first | refine wX ?_ | exact wZ)
          -- 5: the field, vlV left: the value
          refine LdN.one (a := some ⟨R.rb, 0, none⟩) (q := 5) (vlV left) rfl (fun w hw => hw.2.1) rfl ?_
          (first | refine wX ?_ | exact wZ)
          try refine Nd.mk ⟨Nat.le_refl 1, rfl, rfl⟩ ?_
          (conv => whnf)
          refine AppN.grow 4 (strC left.xs) [.string (bs word)] rfl rfl ⟨Nat.le_refl 1, ⟨by show (left.xs.length + 1) * 16 ≤ _; omega, by show left.xs.length + 1 < _; omega⟩, Nat.one_ne_zero⟩ fun b1 c1 h11 h12 => ?_
          (first | refine wX ?_ | exact wZ)
          have hll2 : (left.xs ++ [word]).length = left.xs.length + 1 := by simp
          refine EffW.appTo (i := 1) (q := 5) (ys := [_]) (rC R l.length W.length (at_ + 1) ⟨left.xs ++ [word], some b1, c1⟩) 6 rfl rfl rfl rfl rfl rfl rfl (Nat.le_of_ble_eq_true rfl) (by
            show [_, _, _, _, _, Value.slice _ (left.xs.length + 1) _] = [_, _, _, _, _, Value.slice _ (left.xs ++ [word]).length _]
            rw [hll2]
            rfl) rfl ?_
          (first | refine wX ?_ | exact wZ)
          -- the same where there is no error; wkE_refl _, wkE_refl _, wkE_refl _, wkE_refl _, .inl ⟨rfl, rfl, strC_snoc _ _, rfl, hll2.symm, rfl⟩, wkE_refl _, wkE_refl _, wkE_refl _, wkE_refl _, wkE_refl _, wkE_refl _, wkE_refl _, wkE_refl _, wkH_nil _: the entries, ({ psOf at_ v g left with at_ := at_ + 1, left := left.xs ++ [word] } : PS): the state, ⟨left.xs ++ [word], some b1, c1⟩: what is left, by rw [hll2]; exact h11: its length
          have hsa1 := step_at (by show at_ < W.length; omega) hst
          have hgr1 := step_grow (l := l) (W := W) (stop := false) (w := word) (s := psOf at_ v g left) (n := at_ * 4001) (fun j => hv j)
          rw [hst] at hgr1
          rw [hst] at he
          have hlc' : (⟨left.xs ++ [word], some b1, c1⟩ : VL).xs.length ≤ (⟨left.xs ++ [word], some b1, c1⟩ : VL).c := by rw [hll2]; exact h11
          have he2 : readS l W false m ({ psOf at_ v g left with at_ := at_ + 1, left := left.xs ++ [word] } : PS) = r := he
          have hps : psOf ({ psOf at_ v g left with at_ := at_ + 1, left := left.xs ++ [word] } : PS).at_ v ({ psOf at_ v g left with at_ := at_ + 1, left := left.xs ++ [word] } : PS).given ⟨left.xs ++ [word], some b1, c1⟩ = ({ psOf at_ v g left with at_ := at_ + 1, left := left.xs ++ [word] } : PS) := ps_eq (r := ({ psOf at_ v g left with at_ := at_ + 1, left := left.xs ++ [word] } : PS)) (v' := v) (left := ⟨left.xs ++ [word], some b1, c1⟩) (fun _ => rfl) (by exact Eq.symm (rfl))
          refine ⟨⟨({ psOf at_ v g left with at_ := at_ + 1, left := left.xs ++ [word] } : PS).at_, v, ({ psOf at_ v g left with at_ := at_ + 1, left := left.xs ++ [word] } : PS).given, ⟨left.xs ++ [word], some b1, c1⟩, m⟩, ⟨hsa1.2.1, by rw [hsa1.2.2.1]; exact hg, fun j => ?_, (by have h9 := hsa1.2.2.2 hll; have h8 : (⟨left.xs ++ [word], some b1, c1⟩ : VL).xs = ({ psOf at_ v g left with at_ := at_ + 1, left := left.xs ++ [word] } : PS).left := rfl; rw [h8]; exact h9), hlc', by have h9 : at_ < ({ psOf at_ v g left with at_ := at_ + 1, left := left.xs ++ [word] } : PS).at_ := hsa1.1; omega, by rw [hps]; exact he2⟩, by have h9 : at_ < ({ psOf at_ v g left with at_ := at_ + 1, left := left.xs ++ [word] } : PS).at_ := hsa1.1; have h8 : ({ psOf at_ v g left with at_ := at_ + 1, left := left.xs ++ [word] } : PS).at_ ≤ W.length := hsa1.2.1; show W.length - ({ psOf at_ v g left with at_ := at_ + 1, left := left.xs ++ [word] } : PS).at_ < W.length - at_; omega, ?_, ⟨wkE_refl _, wkE_refl _, wkE_refl _, wkE_refl _, .inl ⟨rfl, rfl, strC_snoc _ _, rfl, hll2.symm, rfl⟩, wkE_refl _, wkE_refl _, wkE_refl _, wkE_refl _, wkE_refl _, wkE_refl _, wkE_refl _, wkE_refl _, wkH_nil _⟩⟩
          · have h7 := hgr1 j
            have h3 : (v j).xs = ({ psOf at_ v g left with at_ := at_ + 1, left := left.xs ++ [word] } : PS).vals j := (fun _ => rfl) j
            rw [h3]
            have h9 : at_ < ({ psOf at_ v g left with at_ := at_ + 1, left := left.xs ++ [word] } : PS).at_ := hsa1.1
            have h6 : (({ psOf at_ v g left with at_ := at_ + 1, left := left.xs ++ [word] } : PS).vals j).length ≤ at_ * 4001 + (word.length + 1) := h7
            have h5 : (at_ + 1) * 4001 ≤ ({ psOf at_ v g left with at_ := at_ + 1, left := left.xs ++ [word] } : PS).at_ * 4001 := Nat.mul_le_mul_right _ h9
            omega
          · (repeat' (first | exact trivial | refine And.intro (by with_reducible rfl) ?_ | (with_reducible exact wkC_refl _) | (with_reducible exact wkCs_refl _) | refine And.intro ?_ ?_))
            all_goals rfl
  · rw [readS_end (by show W.length ≤ at_; omega)] at he
    obtain rfl := he
    (first | refine wX ?_ | exact wZ)
    exact ⟨(v, left), ⟨fun _ => rfl, rfl, hlc⟩, rfl, wkE_refl _, wkE_refl _, wkE_refl _, wkE_refl _, wkE_refl _, wkE_refl _, wkE_refl _, wkE_refl _, wkE_refl _, wkE_refl _, wkE_refl _, wkE_refl _, wkE_refl _, wkH_nil _⟩
end Go.Proofs.YteljlkkppaobeaaGreatDoor

/-
  AX, forty-third text: rows that are made, of one cell an element.
-/
namespace Go.AX

theorem made_row (z : Value) (n : Nat) : (madeCells #[z] n).toList = List.replicate n z := by
  apply List.ext_getElem?
  intro i
  rw [madeCells, Array.toList_map, List.getElem?_map, Array.toList_range]
  by_cases h : i < n
  · rw [List.getElem?_range h, List.getElem?_replicate, if_pos h]
    simp [Nat.mod_one]
  · rw [List.getElem?_eq_none (by simpa using h), List.getElem?_eq_none (by simpa using h)]
    rfl
/-- make([]T, n) -/
theorem EffW.mkRow {P : Program} {o : Oper} {s : List AV} {H : List Ent} {K : AV → List Ent → Prop} {t e : TypeId} {x y : Operand} {inf : TypeInfo} {z : Value} (n : Nat) (xs : List Value) (ho : o.op = .makeSlice t x y) (ht : P.underlying t = some (.slice e)) (hi : P.info? e = some inf) (hz : inf.zero = some z) (h1 : inf.size = 1) (hc : z.cells = #[z])
    (hx : opv s x = .c (.v (.int .i64 (n : Int)))) (hy : opv s y = .c (.v (.int .i64 (n : Int)))) (hn : n ≤ 1000000 ∧ inf.bytes ≤ 1000) (hxs : List.replicate n z = xs)
    (next : ∀ b, K (.c (.v (.slice (some ⟨b, 0, none⟩) n n))) (H ++ [.app e 1 xs (some ⟨b, 0, none⟩) n n])) : EffW P o s H K := by
  subst hxs
  intro ρ S w a hs hr
  have hxr := opv_rel hr x
  have hyr := opv_rel hr y
  rw [hx] at hxr; rw [hy] at hyr
  have hxe : a.eval x = .int .i64 (n : Int) := hxr
  have hye : a.eval y = .int .i64 (n : Int) := hyr
  have hm2 : inf.bytes * n ≤ 1000 * n := Nat.mul_le_mul_right _ hn.2
  have hrun := run_makeSlice (P := P) (w := w) t e inf z ht hi hz .i64 .i64 (n : Int) (n : Int) (by omega) (Int.le_refl _) (by rw [h1]; omega) (by rw [← Int.natCast_mul]; omega) (by omega)
  simp only [Int.toNat_natCast, h1, Nat.mul_one, hc] at hrun
  have hrow : RowF e 1 n (List.replicate n z) w.heap.size n (w.alloc (.cells (madeCells #[z] n) e)) :=
    ⟨_, (0, 0), ⟨heap_alloc_new w _, .inl rfl⟩, by simp, Nat.le_refl _, by simp only [maxLen]; omega, by rw [size_madeCells, Nat.mul_one], by rw [made_row, Nat.mul_one, List.take_of_length_le (by simp)]⟩
  have hS := hs.newApp (w' := w.alloc (.cells (madeCells #[z] n) e)) rfl rfl rfl rfl hrow
  refine ⟨_, _, next w.heap.size, _, _, _, _, ?_, .inl rfl, hS.1, hS.2, rfl⟩
  unfold execOp
  simp only [ho, hxe, hye, Sem.run_bind, Sem.run_pure, hrun, Result.andThen_ok]
/-- len of a slice, in a drawing region. -/
theorem BlindW.len {P : Program} {o : Oper} {s : List AV} {K : AV → Prop} {x : Operand} {T e : TypeId} {args : Array Operand} {ts : Array TypeId} {p : Option Addr} {n c : Nat} (ho : o.op = .call { callee := .builtin .len, args := args, argTypes := ts }) (ha : args = #[x]) (ht : ts = #[T]) (hu : P.underlying T = some (.slice e))
    (hx : opv s x = .c (.v (.slice p n c))) (hk : K (.c (.v (.int .i64 (n : Int))))) : ∃ x, BlindW P o s K x := by
  subst ha ht
  refine ⟨.int .i64 (n : Int), ?_, fun w => execOp_blt ho fun consts => ?_, hk⟩
  · rw [ho]
    show allPlain s [x] = true
    simp [allPlain, hx]
  · have he : plainEv s x = .slice p n c := by unfold plainEv; rw [hx]
    simp [builtin, Builtin.len_, run_underlying hu, he, goInt]
/-- What the facts on memory say of no memory at all. -/
theorem SpecH.know {P : Program} {f : FuncId} {args : List AV} {H : List Ent} {K : Out → List Ent → Prop} (ok : CallOk P f) (φ : Prop) (hφ : ∀ w, Facts H w → φ) (h : φ → SpecH P f args H K) : SpecH P f args H K :=
  ⟨ok, fun ρ S w vs hs hr => (h (hφ w hs.facts)).run ρ S w vs hs hr⟩
end Go.AX

/-
  Contract: Parse (program).
-/
namespace Go.Proofs.YteljlkkppaobeaaGreatDoor
open Go.AX Go.RowKit Go.Opts
set_option maxRecDepth 20000

def nilV : VL := ⟨[], none, 0⟩
theorem vC_nil (n : Nat) : List.replicate n (.slice none 0 0) = vC n fun _ => nilV := by
  apply List.ext_getElem?
  intro i
  unfold vC
  rw [List.getElem?_map]
  by_cases h : i < n
  · rw [List.getElem?_range h, List.getElem?_replicate, if_pos h]; rfl
  · rw [List.getElem?_eq_none (by simpa using h), List.getElem?_eq_none (by simpa using h)]; rfl
theorem gC_nil (n : Nat) : List.replicate n (.int .i64 0) = gC (List.replicate n 0) := by simp [gC]
def VlF (v : VL) (w : World) : Prop := SlAt (at0 v.a) (v.xs.length * 1) (strC v.xs) w
/-- A result lies there. -/
def ResF (n vb gb : Nat) (v : Nat → VL) (g : List Int) (left : VL) (w : World) : Prop := SlAt (some ⟨vb, 0, none⟩) (n * 1) (vC n v) w ∧ SlAt (some ⟨gb, 0, none⟩) (n * 1) (gC g) w ∧ VlF left w ∧ ∀ j, j < 8 → VlF (v j) w
def resV (n vb gb : Nat) (left : VL) : Value := .agg #[.slice (some ⟨vb, 0, none⟩) n n, .slice (some ⟨gb, 0, none⟩) n n, vlV left]
/-- What Parse answers. -/
def ParseR (n : Nat) (p : PS × Nat × Int) (x : Value) (G : World → Prop) : Prop :=
  (p.2.2 ≠ 0 ∧ x = .tuple #[.agg #[.slice none 0 0, .slice none 0 0, .slice none 0 0], .int .i64 (p.2.1 : Int), .int .i64 p.2.2]) ∨
  (p.2.2 = 0 ∧ ∃ (vb gb : Nat) (v : Nat → VL) (left : VL), x = .tuple #[resV n vb gb left, .int .i64 0, .int .i64 0] ∧ (∀ j, (v j).xs = p.1.vals j) ∧ left.xs = p.1.left ∧ p.1.given.length = n ∧ ∀ w, G w → ResF n vb gb v p.1.given left w)
theorem chk_kinds {l : List Opt} (h : chkB l = true) : ∀ o ∈ l, (0 ≤ o.kind ∧ o.kind ≤ 5) ∧ o.name.length ≤ 1000000000 := by
  intro o ho
  obtain ⟨i, hi⟩ := List.getElem?_of_mem ho
  unfold chkB at h
  rw [Bool.and_eq_true] at h
  have h1 := List.all_eq_true.1 h.2 i (List.mem_range.2 (List.getElem?_eq_some_iff.1 hi).1)
  rw [hi] at h1
  simp only [Bool.and_eq_true, okB, decide_eq_true_eq] at h1
  exact ⟨⟨h1.1.1.1.2, h1.1.1.2⟩, Nat.le_trans h1.1.1.1.1.1.1.1.1.1.2 (by decide)⟩
theorem finS_drop (g : List Int) (l : List Opt) (i : Nat) {o : Opt} (h : l[i]? = some o) (v : Nat → List (List UInt8)) : finS g i (l.drop i) v = if 0 < g.getD i 0 then finS g (i + 1) (l.drop (i + 1)) v else if o.must then (v, some i) else if o.dflt != [] then finS g (i + 1) (l.drop (i + 1)) (upd v i [o.dflt]) else finS g (i + 1) (l.drop (i + 1)) v := by
  obtain ⟨hlt, hx⟩ := List.getElem?_eq_some_iff.1 h
  rw [List.drop_eq_getElem_cons hlt, hx]
  rfl
theorem read_given (l : List Opt) (W : List (List UInt8)) : ∀ (n : Nat) (s : PS), (readS l W false n s).1.given.length = s.given.length
  | 0, s => rfl
  | n + 1, s => by
    unfold readS
    cases hw : W[s.at_]? with
    | none => rfl
    | some w =>
      simp only
      have h := (step_at (l := l) (W := W) (stop := false) (w := w) (s := s) (s' := (stepS l W false w s).1) (e := (stepS l W false w s).2) (List.getElem?_eq_some_iff.1 hw).1 rfl).2.2.1
      generalize stepS l W false w s = q at *
      obtain ⟨s1, e⟩ := q
      simp only at h ⊢
      split
      · rw [read_given l W n s1, h]
      · exact h
set_option maxHeartbeats 4000000 in
theorem Parse_c (ab : Option Nat) (cap : Nat) (l : List Opt) (wa : Option Addr) (wc : Nat) (W : List (List UInt8)) (ha : ab = none → l = []) (hcap : l.length ≤ cap) (hn8 : l.length ≤ 8) (hn : ∀ o ∈ l, o.name.length ≤ 1000000000) (hwa : wa = none → W = []) (hwc : W.length ≤ wc) (hWl : ∀ w ∈ W, w.length ≤ 4000) :
    SpecF Tryz.prog 10 [.slice (at0 ab) l.length cap, .slice wa W.length wc, .bool false] (RdF ⟨0, at0 ab, cap, wa, wc, 0, 0⟩ l W) (ParseR l.length (parseS l W false)) := by
  refine specF hm Tryz.func10 (by kernel_rfl) rfl rfl ?_
  generalize hp : parseS l W false = p
  (first | refine wX ?_ | exact wZ)
  refine call1 (Check_c ab cap l ha hcap (Nat.le_trans hn8 (by decide)) hn _ (fun w hw => hw.1.1)) ?_
  cases hck : chkB l with
  | false =>
    obtain rfl : (initS l, 0, 1) = p := by rw [← hp]; unfold parseS; rw [hck]; rfl
    (first | refine wX ?_ | exact wZ)
    exact fin_v (.inl ⟨show (1 : Int) ≠ 0 by decide, rfl⟩)
  | true =>
    (first | refine wX ?_ | exact wZ)
    refine brd_dec (fun h2 => ?_) (fun h2 => ?_)
    · obtain rfl : (initS l, 0, 1) = p := by rw [← hp]; unfold parseS; rw [hck, show decide (200 < W.length) = true by simp; omega]; rfl
      (first | refine wX ?_ | exact wZ)
      exact fin_v (.inl ⟨show (1 : Int) ≠ 0 by decide, rfl⟩)
    have hpe : p = match readS l W false (W.length + 1) (psOf 0 (fun _ => nilV) (List.replicate l.length 0) nilV) with
      | (s, a, e) => if e ≠ 0 then (s, a, e) else match finS s.given 0 l s.vals with
        | (_, some i) => (s, i, 3)
        | (v, none) => ({ s with vals := v }, 0, 0) := by
      rw [← hp]; unfold parseS; rw [hck, show decide (200 < W.length) = false by simp; omega]; rfl
    have hgl := read_given l W (W.length + 1) (psOf 0 (fun _ => nilV) (List.replicate l.length 0) nilV)
    ((conv => whnf); (repeat ((first | refine RwN.own ?_ | refine VrN.norm (wrap_i64 (by omega)) ?_ | refine VrN.keep ?_ | refine DrawN.calm (by decide +kernel) ?_ | refine Nd.mk (by decide +kernel) ?_ | refine Nd.mk (by omega) ?_ | (refine Nd.mk ?_ ?_; focus ((repeat' (first | exact trivial | exact wkE_refl _ | refine And.intro ?_ ?_)); done)) | refine RdN.intro _ rfl (by rfl) ?_); (conv => whnf))))
    refine DrawN.tree [0, 1, 2, 5, 3, 6] (.cons 4 (.cons 7 (.cons 8 (.cons 9 (.cons 10 (.cons 11 .nil .nil) .nil) .nil) .nil) .nil) (.cons 7 (.cons 4 (.cons 8 (.cons 9 (.cons 10 (.cons 11 .nil .nil) .nil) .nil) .nil) .nil) .nil)) 6 (by decide +kernel) ?_
    ((conv => whnf); (repeat ((first | refine RwN.own ?_ | refine VrN.norm (wrap_i64 (by omega)) ?_ | refine VrN.keep ?_ | refine DrawN.calm (by decide +kernel) ?_ | refine Nd.mk (by decide +kernel) ?_ | refine Nd.mk (by omega) ?_ | (refine Nd.mk ?_ ?_; focus ((repeat' (first | exact trivial | exact wkE_refl _ | refine And.intro ?_ ?_)); done)) | refine RdN.intro _ rfl (by rfl) ?_); (conv => whnf))))
    refine BlindW.len rfl rfl rfl Tryz.underlying33 rfl ?_
    ((conv => whnf); (repeat ((first | refine RwN.own ?_ | refine VrN.norm (wrap_i64 (by omega)) ?_ | refine VrN.keep ?_ | refine DrawN.calm (by decide +kernel) ?_ | refine Nd.mk (by decide +kernel) ?_ | refine Nd.mk (by omega) ?_ | (refine Nd.mk ?_ ?_; focus ((repeat' (first | exact trivial | exact wkE_refl _ | refine And.intro ?_ ?_)); done)) | refine RdN.intro _ rfl (by rfl) ?_); (conv => whnf))))
    refine BlindW.len rfl rfl rfl Tryz.underlying33 rfl ?_
    ((conv => whnf); (repeat ((first | refine RwN.own ?_ | refine VrN.norm (wrap_i64 (by omega)) ?_ | refine VrN.keep ?_ | refine DrawN.calm (by decide +kernel) ?_ | refine Nd.mk (by decide +kernel) ?_ | refine Nd.mk (by omega) ?_ | (refine Nd.mk ?_ ?_; focus ((repeat' (first | exact trivial | exact wkE_refl _ | refine And.intro ?_ ?_)); done)) | refine RdN.intro _ rfl (by rfl) ?_); (conv => whnf))))
    refine ⟨?_, ?_⟩
    · ((conv => whnf); (repeat ((first | refine RwN.own ?_ | refine VrN.norm (wrap_i64 (by omega)) ?_ | refine VrN.keep ?_ | refine DrawN.calm (by decide +kernel) ?_ | refine Nd.mk (by decide +kernel) ?_ | refine Nd.mk (by omega) ?_ | (refine Nd.mk ?_ ?_; focus ((repeat' (first | exact trivial | exact wkE_refl _ | refine And.intro ?_ ?_)); done)) | refine RdN.intro _ rfl (by rfl) ?_); (conv => whnf))))
      refine EffW.mkRow (e := 22) (z := .slice none 0 0) l.length (vC l.length fun _ => nilV) rfl (by kernel_rfl) rfl rfl rfl rfl rfl rfl ⟨by omega, by decide⟩ (vC_nil _) fun vb => ?_
      ((conv => whnf); (repeat ((first | refine RwN.own ?_ | refine VrN.norm (wrap_i64 (by omega)) ?_ | refine VrN.keep ?_ | refine DrawN.calm (by decide +kernel) ?_ | refine Nd.mk (by decide +kernel) ?_ | refine Nd.mk (by omega) ?_ | (refine Nd.mk ?_ ?_; focus ((repeat' (first | exact trivial | exact wkE_refl _ | refine And.intro ?_ ?_)); done)) | refine RdN.intro _ rfl (by rfl) ?_); (conv => whnf))))
      refine EffW.mkRow (e := 3) (z := .int .i64 0) l.length (gC (List.replicate l.length 0)) rfl (by kernel_rfl) rfl rfl rfl rfl rfl rfl ⟨by omega, by decide⟩ (gC_nil _) fun gb => ?_
      -- 2, 3: the places of the two rows
      ((conv => whnf); (repeat ((first | refine RwN.own ?_ | refine VrN.norm (wrap_i64 (by omega)) ?_ | refine VrN.keep ?_ | refine DrawN.calm (by decide +kernel) ?_ | refine Nd.mk (by decide +kernel) ?_ | refine Nd.mk (by omega) ?_ | (refine Nd.mk ?_ ?_; focus ((repeat' (first | exact trivial | exact wkE_refl _ | refine And.intro ?_ ?_)); done)) | refine RdN.intro _ rfl (by rfl) ?_); (conv => whnf))))
      refine BoxN.known _ rfl fun rb => ?_
      ((conv => whnf); (repeat ((first | refine RwN.own ?_ | refine VrN.norm (wrap_i64 (by omega)) ?_ | refine VrN.keep ?_ | refine DrawN.calm (by decide +kernel) ?_ | refine Nd.mk (by decide +kernel) ?_ | refine Nd.mk (by omega) ?_ | (refine Nd.mk ?_ ?_; focus ((repeat' (first | exact trivial | exact wkE_refl _ | refine And.intro ?_ ?_)); done)) | refine RdN.intro _ rfl (by rfl) ?_); (conv => whnf))))
      refine SpecH.pad [vlE nilV, vlE nilV, vlE nilV, vlE nilV, vlE nilV, vlE nilV, vlE nilV, vlE nilV, vlE nilV] rfl ?_
      have ok : RdOk ⟨rb, at0 ab, cap, wa, wc, vb, gb⟩ l W := ⟨fun o ho => (chk_kinds hck o ho).1, hn, hn8, by omega, hwa, fun h => ha (by cases ab with | none => rfl | some b => cases h)⟩
      refine callG (read_c ⟨rb, at0 ab, cap, wa, wc, vb, gb⟩ l W 0 (fun _ => nilV) (List.replicate l.length 0) nilV (W.length + 1) ok (by omega) hwc hWl (by simp) (Nat.zero_le _) (fun _ => Nat.zero_le _) (Nat.le_refl _) (Nat.le_refl _) (by omega)) [0, 4, 2, 3, 5, 6, 7, 8, 9, 10, 11, 12, 13] rfl ⟨rfl, rfl, rfl, rfl, rfl, rfl, rfl, rfl, rfl, rfl, rfl, rfl, rfl, trivial⟩ rfl fun ⟨v, left⟩ ⟨hv, hln, hlc⟩ => ?_
      generalize readS l W false (W.length + 1) (psOf 0 (fun _ => nilV) (List.replicate l.length 0) nilV) = r at *
      obtain ⟨s1, at1, e1⟩ := r
      (first | refine wX ?_ | exact wZ)
      refine brd_ne (fun h4 => ?_) (fun h4 => ?_)
      · obtain rfl : p = (s1, at1, e1) := by rw [hpe]; exact if_pos h4
        (first | refine wX ?_ | exact wZ)
        exact fin_v (.inl ⟨h4, rfl⟩)
      obtain rfl : e1 = 0 := h4
      have hpe2 : p = match finS s1.given 0 l s1.vals with
        | (_, some i) => (s1, i, 3)
        | (v, none) => ({ s1 with vals := v }, 0, 0) := by
        rw [hpe]
        exact if_neg (fun h => h rfl)
      have hgl2 : s1.given.length = l.length := by
        have h := hgl
        simp [psOf] at h
        exact h
      (first | refine wX ?_ | exact wZ)
      refine LoopN.intro (Nat × (Nat → VL)) (fun ⟨i, v⟩ => i ≤ l.length ∧ finS s1.given i (l.drop i) (fun j => (v j).xs) = finS s1.given 0 l s1.vals)
        (fun ⟨i, _⟩ => mkS Tryz.f10.ntmps 0 [(0, .c (.v (.slice (at0 ab) l.length cap))), (6, .c (.lp 1 0)), (7, .c (.v (.int .i64 0))), (8, .c (.v (.int .i64 0))), (9, .c (.v (.pointer (some ⟨rb, 0, none⟩)))), (45, .c (.v (.slice (at0 ab) l.length cap))), (46, .c (.v (.int .i64 (l.length : Int)))), (47, .c (.v (.int .i64 (i : Int))))])
        (fun ⟨_, v⟩ => [.fact (RdF ⟨0, at0 ab, cap, wa, wc, 0, 0⟩ l W), .blk 37 [.v (.slice none 0 0), .v (.slice none 0 0), .v (.slice none 0 0)], vE ⟨rb, at0 ab, cap, wa, wc, vb, gb⟩ l.length v, gE ⟨rb, at0 ab, cap, wa, wc, vb, gb⟩ l.length s1.given, rE ⟨rb, at0 ab, cap, wa, wc, vb, gb⟩ l.length W.length s1.at_ left, vlE left, vlE (v 0), vlE (v 1), vlE (v 2), vlE (v 3), vlE (v 4), vlE (v 5), vlE (v 6), vlE (v 7)]) (fun ⟨i, _⟩ => l.length - i) [] rfl (fun _ => rfl) (fun _ => rfl) (fun _ _ => okHB_eq rfl)
        ⟨⟨0, v⟩, ⟨Nat.zero_le _, by rw [show (fun j => (v j).xs) = s1.vals from funext hv]; rfl⟩, ?_, ⟨wkE_refl _, wkE_refl _, wkE_refl _, wkE_refl _, wkE_refl _, wkE_refl _, wkE_refl _, wkE_refl _, wkE_refl _, wkE_refl _, wkE_refl _, wkE_refl _, wkE_refl _, wkE_refl _, wkH_nil _⟩⟩ ?_
      · (repeat' (first | exact trivial | refine And.intro (by with_reducible rfl) ?_ | (with_reducible exact wkC_refl _) | (with_reducible exact wkCs_refl _) | refine And.intro ?_ ?_))
        all_goals rfl
      clear hv
      rintro ⟨i, v⟩ ⟨hi, he⟩
      (first | refine wX ?_ | exact wZ)
      refine brd_dec (fun h1 => ?_) (fun h1 => ?_)
      · obtain ⟨o, ho⟩ : ∃ o, l[i]? = some o := ⟨_, List.getElem?_eq_getElem (by omega)⟩
        have hil : i < l.length := by omega
        have hsa : (at0 ab).isSome = true := by
          cases ab with
          | none => rw [ha rfl] at ho; cases ho
          | some b => rfl
        have hgi := gC_get (g := s1.given) (i := i) (by omega)
        rw [finS_drop s1.given l i ho] at he
        (first | refine wX ?_ | exact wZ)
        refine Nd.mk ⟨hsa, by omega, by omega⟩ ?_
        (first | refine wX ?_ | exact wZ)
        refine LdN.agg (optC o) rfl (fun w hw => hw.1.1) rfl (fun j hj => by
          rw [Int.toNat_natCast]
          exact optsC_get l i j hj ho) ?_
        (first | refine wX ?_ | exact wZ)
        refine LdN.one (a := some ⟨rb, 0, none⟩) (q := 4) (.slice (some ⟨gb, 0, none⟩) l.length l.length) rfl (fun w hw => hw.2.2.2.1) rfl ?_
        (first | refine wX ?_ | exact wZ)
        refine Nd.mk ⟨rfl, by omega, by omega⟩ ?_
        (first | refine wX ?_ | exact wZ)
        refine LdN.one (.int .i64 (s1.given.getD i 0)) rfl (fun w hw => hw.2.2.1) (by rw [Int.toNat_natCast]; show (gC s1.given)[i * 1]? = _; rw [Nat.mul_one]; exact hgi) ?_
        (first | refine wX ?_ | exact wZ)
        refine brd_dec (fun h5 => ?_) (fun h5 => ?_)
        · rw [if_pos h5] at he
          (first | refine wX ?_ | exact wZ)
          refine ⟨⟨i + 1, v⟩, ⟨by omega, he⟩, by show l.length - (i + 1) < l.length - i; omega, ?_, ⟨wkE_refl _, wkE_refl _, wkE_refl _, wkE_refl _, wkE_refl _, wkE_refl _, wkE_refl _, wkE_refl _, wkE_refl _, wkE_refl _, wkE_refl _, wkE_refl _, wkE_refl _, wkE_refl _, wkH_nil _⟩⟩
          (repeat' (first | exact trivial | refine And.intro (by with_reducible rfl) ?_ | (with_reducible exact wkC_refl _) | (with_reducible exact wkCs_refl _) | refine And.intro ?_ ?_))
          all_goals first | rfl | exact av_int (by rw [wrap_i64 (by omega)]; omega)
        rw [if_neg h5] at he
        (first | refine wX ?_ | exact wZ)
        cases hm : o.must with
        | true =>
          rw [hm, if_pos rfl] at he
          obtain rfl : p = (s1, i, 3) := by rw [hpe2, ← he]
          (first | refine wX ?_ | exact wZ)
          exact fin_v (.inl ⟨show (3 : Int) ≠ 0 by decide, rfl⟩)
        | false =>
          rw [hm, if_neg (by simp)] at he
          (first | refine wX ?_ | exact wZ)
          rw [show ((bs o.dflt).data.toList == (⟨#[]⟩ : ByteArray).data.toList) = (o.dflt == []) by rw [bs_list]]
          cases hd : o.dflt == [] with
          | true =>
            rw [if_neg (by rw [bne, hd]; simp)] at he
            (first | refine wX ?_ | exact wZ)
            refine ⟨⟨i + 1, v⟩, ⟨by omega, he⟩, by show l.length - (i + 1) < l.length - i; omega, ?_, ⟨wkE_refl _, wkE_refl _, wkE_refl _, wkE_refl _, wkE_refl _, wkE_refl _, wkE_refl _, wkE_refl _, wkE_refl _, wkE_refl _, wkE_refl _, wkE_refl _, wkE_refl _, wkE_refl _, wkH_nil _⟩⟩
            (repeat' (first | exact trivial | refine And.intro (by with_reducible rfl) ?_ | (with_reducible exact wkC_refl _) | (with_reducible exact wkCs_refl _) | refine And.intro ?_ ?_))
            all_goals first | rfl | exact av_int (by rw [wrap_i64 (by omega)]; omega)
          | false =>
            rw [if_pos (by rw [bne, hd]; rfl)] at he
            ((conv => whnf); (repeat ((first | refine BoxN.own ?_ | refine VrN.norm (wrap_i64 (by omega)) ?_ | refine VrN.keep ?_ | refine DrawN.calm (by decide +kernel) ?_ | refine Nd.mk (by decide +kernel) ?_ | refine Nd.mk (by omega) ?_ | (refine Nd.mk ?_ ?_; focus ((repeat' (first | exact trivial | exact wkE_refl _ | refine And.intro ?_ ?_)); done)) | refine RdN.intro _ rfl (by rfl) ?_); (conv => whnf))))
            refine DrawN.plan [0, 5, 6] [(1, 1), (2, 1), (3, 1), (4, 1), (7, 1), (8, 0), (9, 1)] [(10, 0)] (by decide +kernel) ?_
            ((conv => whnf); (repeat ((first | refine BoxN.own ?_ | refine VrN.norm (wrap_i64 (by omega)) ?_ | refine VrN.keep ?_ | refine DrawN.calm (by decide +kernel) ?_ | refine Nd.mk (by decide +kernel) ?_ | refine Nd.mk (by omega) ?_ | (refine Nd.mk ?_ ?_; focus ((repeat' (first | exact trivial | exact wkE_refl _ | refine And.intro ?_ ?_)); done)) | refine RdN.intro _ rfl (by rfl) ?_); (conv => whnf))))
            refine LdN.one (a := some ⟨rb, 0, none⟩) (q := 3) (.slice (some ⟨vb, 0, none⟩) l.length l.length) rfl (fun w hw => hw.2.2.2.1) rfl ?_
            ((conv => whnf); (repeat ((first | refine BoxN.own ?_ | refine VrN.norm (wrap_i64 (by omega)) ?_ | refine VrN.keep ?_ | refine DrawN.calm (by decide +kernel) ?_ | refine Nd.mk (by decide +kernel) ?_ | refine Nd.mk (by omega) ?_ | (refine Nd.mk ?_ ?_; focus ((repeat' (first | exact trivial | exact wkE_refl _ | refine And.intro ?_ ?_)); done)) | refine RdN.intro _ rfl (by rfl) ?_); (conv => whnf))))
            refine RwN.known [_] rfl fun nb => ?_
            ((conv => whnf); (repeat ((first | refine BoxN.own ?_ | refine VrN.norm (wrap_i64 (by omega)) ?_ | refine VrN.keep ?_ | refine DrawN.calm (by decide +kernel) ?_ | refine Nd.mk (by decide +kernel) ?_ | refine Nd.mk (by omega) ?_ | (refine Nd.mk ?_ ?_; focus ((repeat' (first | exact trivial | exact wkE_refl _ | refine And.intro ?_ ?_)); done)) | refine RdN.intro _ rfl (by rfl) ?_); (conv => whnf))))
            try refine Nd.mk ⟨rfl, by omega, by omega⟩ ?_
            ((conv => whnf); (repeat ((first | refine BoxN.own ?_ | refine VrN.norm (wrap_i64 (by omega)) ?_ | refine VrN.keep ?_ | refine DrawN.calm (by decide +kernel) ?_ | refine Nd.mk (by decide +kernel) ?_ | refine Nd.mk (by omega) ?_ | (refine Nd.mk ?_ ?_; focus ((repeat' (first | exact trivial | exact wkE_refl _ | refine And.intro ?_ ?_)); done)) | refine RdN.intro _ rfl (by rfl) ?_); (conv => whnf))))
            have hi8 : i < 8 := by omega
            have he2 : finS s1.given (i + 1) (l.drop (i + 1)) (fun j => (upd v i ⟨[o.dflt], some nb, 1⟩ j).xs) = finS s1.given 0 l s1.vals := by
              rw [show (fun j => (upd v i ⟨[o.dflt], some nb, 1⟩ j).xs) = upd (fun j => (v j).xs) i [o.dflt] from funext fun j => upd_xs v i _ j]
              exact he
            clear he hgi ho
            rcases i with _ | _ | _ | _ | _ | _ | _ | _ | i
            · -- 0: which one, 6: its entry, 2: that of the row
              refine EffW.swp 6 15 rfl rfl rfl ?_
              refine EffW.appTo (i := 2) (q := 0) (ys := [vlV ⟨[o.dflt], some nb, 1⟩]) (vC l.length (upd v 0 ⟨[o.dflt], some nb, 1⟩)) 1 rfl rfl rfl rfl rfl rfl rfl (by show 0 + 1 ≤ l.length * 1; omega) (vC_set v _ hil) rfl ?_
              (first | refine wX ?_ | exact wZ)
              refine ⟨⟨0 + 1, upd v 0 ⟨[o.dflt], some nb, 1⟩⟩, ⟨by omega, he2⟩, by show l.length - (0 + 1) < l.length - 0; omega, ?_, ⟨wkE_refl _, wkE_refl _, wkE_refl _, wkE_refl _, wkE_refl _, wkE_refl _, wkE_refl _, wkE_refl _, wkE_refl _, wkE_refl _, wkE_refl _, wkE_refl _, wkE_refl _, wkE_refl _, wkH_nil _⟩⟩
              (repeat' (first | exact trivial | refine And.intro (by with_reducible rfl) ?_ | (with_reducible exact wkC_refl _) | (with_reducible exact wkCs_refl _) | refine And.intro ?_ ?_))
              all_goals first | rfl | exact av_int (by rw [wrap_i64 (by omega)]; omega)
            · -- 1: which one, 7: its entry, 2: that of the row
              refine EffW.swp 7 15 rfl rfl rfl ?_
              refine EffW.appTo (i := 2) (q := 1) (ys := [vlV ⟨[o.dflt], some nb, 1⟩]) (vC l.length (upd v 1 ⟨[o.dflt], some nb, 1⟩)) 1 rfl rfl rfl rfl rfl rfl rfl (by show 1 + 1 ≤ l.length * 1; omega) (vC_set v _ hil) rfl ?_
              (first | refine wX ?_ | exact wZ)
              refine ⟨⟨1 + 1, upd v 1 ⟨[o.dflt], some nb, 1⟩⟩, ⟨by omega, he2⟩, by show l.length - (1 + 1) < l.length - 1; omega, ?_, ⟨wkE_refl _, wkE_refl _, wkE_refl _, wkE_refl _, wkE_refl _, wkE_refl _, wkE_refl _, wkE_refl _, wkE_refl _, wkE_refl _, wkE_refl _, wkE_refl _, wkE_refl _, wkE_refl _, wkH_nil _⟩⟩
              (repeat' (first | exact trivial | refine And.intro (by with_reducible rfl) ?_ | (with_reducible exact wkC_refl _) | (with_reducible exact wkCs_refl _) | refine And.intro ?_ ?_))
              all_goals first | rfl | exact av_int (by rw [wrap_i64 (by omega)]; omega)
            · -- 2: which one, 8: its entry, 2: that of the row
              refine EffW.swp 8 15 rfl rfl rfl ?_
              refine EffW.appTo (i := 2) (q := 2) (ys := [vlV ⟨[o.dflt], some nb, 1⟩]) (vC l.length (upd v 2 ⟨[o.dflt], some nb, 1⟩)) 1 rfl rfl rfl rfl rfl rfl rfl (by show 2 + 1 ≤ l.length * 1; omega) (vC_set v _ hil) rfl ?_
              (first | refine wX ?_ | exact wZ)
              refine ⟨⟨2 + 1, upd v 2 ⟨[o.dflt], some nb, 1⟩⟩, ⟨by omega, he2⟩, by show l.length - (2 + 1) < l.length - 2; omega, ?_, ⟨wkE_refl _, wkE_refl _, wkE_refl _, wkE_refl _, wkE_refl _, wkE_refl _, wkE_refl _, wkE_refl _, wkE_refl _, wkE_refl _, wkE_refl _, wkE_refl _, wkE_refl _, wkE_refl _, wkH_nil _⟩⟩
              (repeat' (first | exact trivial | refine And.intro (by with_reducible rfl) ?_ | (with_reducible exact wkC_refl _) | (with_reducible exact wkCs_refl _) | refine And.intro ?_ ?_))
              all_goals first | rfl | exact av_int (by rw [wrap_i64 (by omega)]; omega)
            · -- 3: which one, 9: its entry, 2: that of the row
              refine EffW.swp 9 15 rfl rfl rfl ?_
              refine EffW.appTo (i := 2) (q := 3) (ys := [vlV ⟨[o.dflt], some nb, 1⟩]) (vC l.length (upd v 3 ⟨[o.dflt], some nb, 1⟩)) 1 rfl rfl rfl rfl rfl rfl rfl (by show 3 + 1 ≤ l.length * 1; omega) (vC_set v _ hil) rfl ?_
              (first | refine wX ?_ | exact wZ)
              refine ⟨⟨3 + 1, upd v 3 ⟨[o.dflt], some nb, 1⟩⟩, ⟨by omega, he2⟩, by show l.length - (3 + 1) < l.length - 3; omega, ?_, ⟨wkE_refl _, wkE_refl _, wkE_refl _, wkE_refl _, wkE_refl _, wkE_refl _, wkE_refl _, wkE_refl _, wkE_refl _, wkE_refl _, wkE_refl _, wkE_refl _, wkE_refl _, wkE_refl _, wkH_nil _⟩⟩
              (repeat' (first | exact trivial | refine And.intro (by with_reducible rfl) ?_ | (with_reducible exact wkC_refl _) | (with_reducible exact wkCs_refl _) | refine And.intro ?_ ?_))
              all_goals first | rfl | exact av_int (by rw [wrap_i64 (by omega)]; omega)
            · -- 4: which one, 10: its entry, 2: that of the row
              refine EffW.swp 10 15 rfl rfl rfl ?_
              refine EffW.appTo (i := 2) (q := 4) (ys := [vlV ⟨[o.dflt], some nb, 1⟩]) (vC l.length (upd v 4 ⟨[o.dflt], some nb, 1⟩)) 1 rfl rfl rfl rfl rfl rfl rfl (by show 4 + 1 ≤ l.length * 1; omega) (vC_set v _ hil) rfl ?_
              (first | refine wX ?_ | exact wZ)
              refine ⟨⟨4 + 1, upd v 4 ⟨[o.dflt], some nb, 1⟩⟩, ⟨by omega, he2⟩, by show l.length - (4 + 1) < l.length - 4; omega, ?_, ⟨wkE_refl _, wkE_refl _, wkE_refl _, wkE_refl _, wkE_refl _, wkE_refl _, wkE_refl _, wkE_refl _, wkE_refl _, wkE_refl _, wkE_refl _, wkE_refl _, wkE_refl _, wkE_refl _, wkH_nil _⟩⟩
              (repeat' (first | exact trivial | refine And.intro (by with_reducible rfl) ?_ | (with_reducible exact wkC_refl _) | (with_reducible exact wkCs_refl _) | refine And.intro ?_ ?_))
              all_goals first | rfl | exact av_int (by rw [wrap_i64 (by omega)]; omega)
            · -- 5: which one, 11: its entry, 2: that of the row
              refine EffW.swp 11 15 rfl rfl rfl ?_
              refine EffW.appTo (i := 2) (q := 5) (ys := [vlV ⟨[o.dflt], some nb, 1⟩]) (vC l.length (upd v 5 ⟨[o.dflt], some nb, 1⟩)) 1 rfl rfl rfl rfl rfl rfl rfl (by show 5 + 1 ≤ l.length * 1; omega) (vC_set v _ hil) rfl ?_
              (first | refine wX ?_ | exact wZ)
              refine ⟨⟨5 + 1, upd v 5 ⟨[o.dflt], some nb, 1⟩⟩, ⟨by omega, he2⟩, by show l.length - (5 + 1) < l.length - 5; omega, ?_, ⟨wkE_refl _, wkE_refl _, wkE_refl _, wkE_refl _, wkE_refl _, wkE_refl _, wkE_refl _, wkE_refl _, wkE_refl _, wkE_refl _, wkE_refl _, wkE_refl _, wkE_refl _, wkE_refl _, wkH_nil _⟩⟩
              (repeat' (first | exact trivial | refine And.intro (by with_reducible rfl) ?_ | (with_reducible exact wkC_refl _) | (with_reducible exact wkCs_refl _) | refine And.intro ?_ ?_))
              all_goals first | rfl | exact av_int (by rw [wrap_i64 (by omega)]; omega)
            · -- 6: which one, 12: its entry, 2: that of the row
              refine EffW.swp 12 15 rfl rfl rfl ?_
              refine EffW.appTo (i := 2) (q := 6) (ys := [vlV ⟨[o.dflt], some nb, 1⟩]) (vC l.length (upd v 6 ⟨[o.dflt], some nb, 1⟩)) 1 rfl rfl rfl rfl rfl rfl rfl (by show 6 + 1 ≤ l.length * 1; omega) (vC_set v _ hil) rfl ?_
              (first | refine wX ?_ | exact wZ)
              refine ⟨⟨6 + 1, upd v 6 ⟨[o.dflt], some nb, 1⟩⟩, ⟨by omega, he2⟩, by show l.length - (6 + 1) < l.length - 6; omega, ?_, ⟨wkE_refl _, wkE_refl _, wkE_refl _, wkE_refl _, wkE_refl _, wkE_refl _, wkE_refl _, wkE_refl _, wkE_refl _, wkE_refl _, wkE_refl _, wkE_refl _, wkE_refl _, wkE_refl _, wkH_nil _⟩⟩
              (repeat' (first | exact trivial | refine And.intro (by with_reducible rfl) ?_ | (with_reducible exact wkC_refl _) | (with_reducible exact wkCs_refl _) | refine And.intro ?_ ?_))
              all_goals first | rfl | exact av_int (by rw [wrap_i64 (by omega)]; omega)
            · -- 7: which one, 13: its entry, 2: that of the row
              refine EffW.swp 13 15 rfl rfl rfl ?_
              refine EffW.appTo (i := 2) (q := 7) (ys := [vlV ⟨[o.dflt], some nb, 1⟩]) (vC l.length (upd v 7 ⟨[o.dflt], some nb, 1⟩)) 1 rfl rfl rfl rfl rfl rfl rfl (by show 7 + 1 ≤ l.length * 1; omega) (vC_set v _ hil) rfl ?_
              (first | refine wX ?_ | exact wZ)
              refine ⟨⟨7 + 1, upd v 7 ⟨[o.dflt], some nb, 1⟩⟩, ⟨by omega, he2⟩, by show l.length - (7 + 1) < l.length - 7; omega, ?_, ⟨wkE_refl _, wkE_refl _, wkE_refl _, wkE_refl _, wkE_refl _, wkE_refl _, wkE_refl _, wkE_refl _, wkE_refl _, wkE_refl _, wkE_refl _, wkE_refl _, wkE_refl _, wkE_refl _, wkH_nil _⟩⟩
              (repeat' (first | exact trivial | refine And.intro (by with_reducible rfl) ?_ | (with_reducible exact wkC_refl _) | (with_reducible exact wkCs_refl _) | refine And.intro ?_ ?_))
              all_goals first | rfl | exact av_int (by rw [wrap_i64 (by omega)]; omega)
            · omega
      · have hin : i = l.length := by omega
        subst hin
        rw [List.drop_of_length_le (Nat.le_refl _)] at he
        obtain rfl : p = ({ s1 with vals := fun j => (v j).xs }, 0, 0) := by rw [hpe2, ← he]; rfl
        (first | refine wX ?_ | exact wZ)
        refine LdN.agg (a := some ⟨rb, 0, none⟩) (q := 3) [.slice (some ⟨vb, 0, none⟩) l.length l.length, .slice (some ⟨gb, 0, none⟩) l.length l.length, vlV left] rfl (fun w hw => hw.2.2.2.1) rfl (fun j hj => by
          have hj3 : j < 3 := hj
          clear hj
          rcases j with _ | _ | _ | j <;> first | rfl | omega) ?_
        (first | refine wX ?_ | exact wZ)
        refine fin_p (ResF l.length vb gb v s1.given left) (.inr ⟨rfl, vb, gb, v, left, rfl, fun _ => rfl, hln, hgl2, fun w hw => hw⟩) fun w hw => ⟨hw.2.1, hw.2.2.1, hw.2.2.2.2.1, fun j hj => ?_⟩
        rcases j with _ | _ | _ | _ | _ | _ | _ | _ | j
        · exact hw.2.2.2.2.2.1
        · exact hw.2.2.2.2.2.2.1
        · exact hw.2.2.2.2.2.2.2.1
        · exact hw.2.2.2.2.2.2.2.2.1
        · exact hw.2.2.2.2.2.2.2.2.2.1
        · exact hw.2.2.2.2.2.2.2.2.2.2.1
        · exact hw.2.2.2.2.2.2.2.2.2.2.2.1
        · exact hw.2.2.2.2.2.2.2.2.2.2.2.2.1
        · omega
    · ((conv => whnf); (repeat ((first | refine RwN.own ?_ | refine VrN.norm (wrap_i64 (by omega)) ?_ | refine VrN.keep ?_ | refine DrawN.calm (by decide +kernel) ?_ | refine Nd.mk (by decide +kernel) ?_ | refine Nd.mk (by omega) ?_ | (refine Nd.mk ?_ ?_; focus ((repeat' (first | exact trivial | exact wkE_refl _ | refine And.intro ?_ ?_)); done)) | refine RdN.intro _ rfl (by rfl) ?_); (conv => whnf))))
      refine EffW.mkRow (e := 3) (z := .int .i64 0) l.length (gC (List.replicate l.length 0)) rfl (by kernel_rfl) rfl rfl rfl rfl rfl rfl ⟨by omega, by decide⟩ (gC_nil _) fun gb => ?_
      ((conv => whnf); (repeat ((first | refine RwN.own ?_ | refine VrN.norm (wrap_i64 (by omega)) ?_ | refine VrN.keep ?_ | refine DrawN.calm (by decide +kernel) ?_ | refine Nd.mk (by decide +kernel) ?_ | refine Nd.mk (by omega) ?_ | (refine Nd.mk ?_ ?_; focus ((repeat' (first | exact trivial | exact wkE_refl _ | refine And.intro ?_ ?_)); done)) | refine RdN.intro _ rfl (by rfl) ?_); (conv => whnf))))
      refine EffW.mkRow (e := 22) (z := .slice none 0 0) l.length (vC l.length fun _ => nilV) rfl (by kernel_rfl) rfl rfl rfl rfl rfl rfl ⟨by omega, by decide⟩ (vC_nil _) fun vb => ?_
      -- 3, 2: the places of the two rows
      ((conv => whnf); (repeat ((first | refine RwN.own ?_ | refine VrN.norm (wrap_i64 (by omega)) ?_ | refine VrN.keep ?_ | refine DrawN.calm (by decide +kernel) ?_ | refine Nd.mk (by decide +kernel) ?_ | refine Nd.mk (by omega) ?_ | (refine Nd.mk ?_ ?_; focus ((repeat' (first | exact trivial | exact wkE_refl _ | refine And.intro ?_ ?_)); done)) | refine RdN.intro _ rfl (by rfl) ?_); (conv => whnf))))
      refine BoxN.known _ rfl fun rb => ?_
      ((conv => whnf); (repeat ((first | refine RwN.own ?_ | refine VrN.norm (wrap_i64 (by omega)) ?_ | refine VrN.keep ?_ | refine DrawN.calm (by decide +kernel) ?_ | refine Nd.mk (by decide +kernel) ?_ | refine Nd.mk (by omega) ?_ | (refine Nd.mk ?_ ?_; focus ((repeat' (first | exact trivial | exact wkE_refl _ | refine And.intro ?_ ?_)); done)) | refine RdN.intro _ rfl (by rfl) ?_); (conv => whnf))))
      refine SpecH.pad [vlE nilV, vlE nilV, vlE nilV, vlE nilV, vlE nilV, vlE nilV, vlE nilV, vlE nilV, vlE nilV] rfl ?_
      have ok : RdOk ⟨rb, at0 ab, cap, wa, wc, vb, gb⟩ l W := ⟨fun o ho => (chk_kinds hck o ho).1, hn, hn8, by omega, hwa, fun h => ha (by cases ab with | none => rfl | some b => cases h)⟩
      refine callG (read_c ⟨rb, at0 ab, cap, wa, wc, vb, gb⟩ l W 0 (fun _ => nilV) (List.replicate l.length 0) nilV (W.length + 1) ok (by omega) hwc hWl (by simp) (Nat.zero_le _) (fun _ => Nat.zero_le _) (Nat.le_refl _) (Nat.le_refl _) (by omega)) [0, 4, 3, 2, 5, 6, 7, 8, 9, 10, 11, 12, 13] rfl ⟨rfl, rfl, rfl, rfl, rfl, rfl, rfl, rfl, rfl, rfl, rfl, rfl, rfl, trivial⟩ rfl fun ⟨v, left⟩ ⟨hv, hln, hlc⟩ => ?_
      generalize readS l W false (W.length + 1) (psOf 0 (fun _ => nilV) (List.replicate l.length 0) nilV) = r at *
      obtain ⟨s1, at1, e1⟩ := r
      (first | refine wX ?_ | exact wZ)
      refine brd_ne (fun h4 => ?_) (fun h4 => ?_)
      · obtain rfl : p = (s1, at1, e1) := by rw [hpe]; exact if_pos h4
        (first | refine wX ?_ | exact wZ)
        exact fin_v (.inl ⟨h4, rfl⟩)
      obtain rfl : e1 = 0 := h4
      have hpe2 : p = match finS s1.given 0 l s1.vals with
        | (_, some i) => (s1, i, 3)
        | (v, none) => ({ s1 with vals := v }, 0, 0) := by
        rw [hpe]
        exact if_neg (fun h => h rfl)
      have hgl2 : s1.given.length = l.length := by
        have h := hgl
        simp [psOf] at h
        exact h
      (first | refine wX ?_ | exact wZ)
      refine LoopN.intro (Nat × (Nat → VL)) (fun ⟨i, v⟩ => i ≤ l.length ∧ finS s1.given i (l.drop i) (fun j => (v j).xs) = finS s1.given 0 l s1.vals)
        (fun ⟨i, _⟩ => mkS Tryz.f10.ntmps 0 [(0, .c (.v (.slice (at0 ab) l.length cap))), (6, .c (.lp 1 0)), (7, .c (.v (.int .i64 0))), (8, .c (.v (.int .i64 0))), (9, .c (.v (.pointer (some ⟨rb, 0, none⟩)))), (45, .c (.v (.slice (at0 ab) l.length cap))), (46, .c (.v (.int .i64 (l.length : Int)))), (47, .c (.v (.int .i64 (i : Int))))])
        (fun ⟨_, v⟩ => [.fact (RdF ⟨0, at0 ab, cap, wa, wc, 0, 0⟩ l W), .blk 37 [.v (.slice none 0 0), .v (.slice none 0 0), .v (.slice none 0 0)], gE ⟨rb, at0 ab, cap, wa, wc, vb, gb⟩ l.length s1.given, vE ⟨rb, at0 ab, cap, wa, wc, vb, gb⟩ l.length v, rE ⟨rb, at0 ab, cap, wa, wc, vb, gb⟩ l.length W.length s1.at_ left, vlE left, vlE (v 0), vlE (v 1), vlE (v 2), vlE (v 3), vlE (v 4), vlE (v 5), vlE (v 6), vlE (v 7)]) (fun ⟨i, _⟩ => l.length - i) [] rfl (fun _ => rfl) (fun _ => rfl) (fun _ _ => okHB_eq rfl)
        ⟨⟨0, v⟩, ⟨Nat.zero_le _, by rw [show (fun j => (v j).xs) = s1.vals from funext hv]; rfl⟩, ?_, ⟨wkE_refl _, wkE_refl _, wkE_refl _, wkE_refl _, wkE_refl _, wkE_refl _, wkE_refl _, wkE_refl _, wkE_refl _, wkE_refl _, wkE_refl _, wkE_refl _, wkE_refl _, wkE_refl _, wkH_nil _⟩⟩ ?_
      · (repeat' (first | exact trivial | refine And.intro (by with_reducible rfl) ?_ | (with_reducible exact wkC_refl _) | (with_reducible exact wkCs_refl _) | refine And.intro ?_ ?_))
        all_goals rfl
      clear hv
      rintro ⟨i, v⟩ ⟨hi, he⟩
      (first | refine wX ?_ | exact wZ)
      refine brd_dec (fun h1 => ?_) (fun h1 => ?_)
      · obtain ⟨o, ho⟩ : ∃ o, l[i]? = some o := ⟨_, List.getElem?_eq_getElem (by omega)⟩
        have hil : i < l.length := by omega
        have hsa : (at0 ab).isSome = true := by
          cases ab with
          | none => rw [ha rfl] at ho; cases ho
          | some b => rfl
        have hgi := gC_get (g := s1.given) (i := i) (by omega)
        rw [finS_drop s1.given l i ho] at he
        (first | refine wX ?_ | exact wZ)
        refine Nd.mk ⟨hsa, by omega, by omega⟩ ?_
        (first | refine wX ?_ | exact wZ)
        refine LdN.agg (optC o) rfl (fun w hw => hw.1.1) rfl (fun j hj => by
          rw [Int.toNat_natCast]
          exact optsC_get l i j hj ho) ?_
        (first | refine wX ?_ | exact wZ)
        refine LdN.one (a := some ⟨rb, 0, none⟩) (q := 4) (.slice (some ⟨gb, 0, none⟩) l.length l.length) rfl (fun w hw => hw.2.2.2.1) rfl ?_
        (first | refine wX ?_ | exact wZ)
        refine Nd.mk ⟨rfl, by omega, by omega⟩ ?_
        (first | refine wX ?_ | exact wZ)
        refine LdN.one (.int .i64 (s1.given.getD i 0)) rfl (fun w hw => hw.2.1) (by rw [Int.toNat_natCast]; show (gC s1.given)[i * 1]? = _; rw [Nat.mul_one]; exact hgi) ?_
        (first | refine wX ?_ | exact wZ)
        refine brd_dec (fun h5 => ?_) (fun h5 => ?_)
        · rw [if_pos h5] at he
          (first | refine wX ?_ | exact wZ)
          refine ⟨⟨i + 1, v⟩, ⟨by omega, he⟩, by show l.length - (i + 1) < l.length - i; omega, ?_, ⟨wkE_refl _, wkE_refl _, wkE_refl _, wkE_refl _, wkE_refl _, wkE_refl _, wkE_refl _, wkE_refl _, wkE_refl _, wkE_refl _, wkE_refl _, wkE_refl _, wkE_refl _, wkE_refl _, wkH_nil _⟩⟩
          (repeat' (first | exact trivial | refine And.intro (by with_reducible rfl) ?_ | (with_reducible exact wkC_refl _) | (with_reducible exact wkCs_refl _) | refine And.intro ?_ ?_))
          all_goals first | rfl | exact av_int (by rw [wrap_i64 (by omega)]; omega)
        rw [if_neg h5] at he
        (first | refine wX ?_ | exact wZ)
        cases hm : o.must with
        | true =>
          rw [hm, if_pos rfl] at he
          obtain rfl : p = (s1, i, 3) := by rw [hpe2, ← he]
          (first | refine wX ?_ | exact wZ)
          exact fin_v (.inl ⟨show (3 : Int) ≠ 0 by decide, rfl⟩)
        | false =>
          rw [hm, if_neg (by simp)] at he
          (first | refine wX ?_ | exact wZ)
          rw [show ((bs o.dflt).data.toList == (⟨#[]⟩ : ByteArray).data.toList) = (o.dflt == []) by rw [bs_list]]
          cases hd : o.dflt == [] with
          | true =>
            rw [if_neg (by rw [bne, hd]; simp)] at he
            (first | refine wX ?_ | exact wZ)
            refine ⟨⟨i + 1, v⟩, ⟨by omega, he⟩, by show l.length - (i + 1) < l.length - i; omega, ?_, ⟨wkE_refl _, wkE_refl _, wkE_refl _, wkE_refl _, wkE_refl _, wkE_refl _, wkE_refl _, wkE_refl _, wkE_refl _, wkE_refl _, wkE_refl _, wkE_refl _, wkE_refl _, wkE_refl _, wkH_nil _⟩⟩
            (repeat' (first | exact trivial | refine And.intro (by with_reducible rfl) ?_ | (with_reducible exact wkC_refl _) | (with_reducible exact wkCs_refl _) | refine And.intro ?_ ?_))
            all_goals first | rfl | exact av_int (by rw [wrap_i64 (by omega)]; omega)
          | false =>
            rw [if_pos (by rw [bne, hd]; rfl)] at he
            ((conv => whnf); (repeat ((first | refine BoxN.own ?_ | refine VrN.norm (wrap_i64 (by omega)) ?_ | refine VrN.keep ?_ | refine DrawN.calm (by decide +kernel) ?_ | refine Nd.mk (by decide +kernel) ?_ | refine Nd.mk (by omega) ?_ | (refine Nd.mk ?_ ?_; focus ((repeat' (first | exact trivial | exact wkE_refl _ | refine And.intro ?_ ?_)); done)) | refine RdN.intro _ rfl (by rfl) ?_); (conv => whnf))))
            refine DrawN.plan [0, 5, 6] [(1, 1), (2, 1), (3, 1), (4, 1), (7, 1), (8, 0), (9, 1)] [(10, 0)] (by decide +kernel) ?_
            ((conv => whnf); (repeat ((first | refine BoxN.own ?_ | refine VrN.norm (wrap_i64 (by omega)) ?_ | refine VrN.keep ?_ | refine DrawN.calm (by decide +kernel) ?_ | refine Nd.mk (by decide +kernel) ?_ | refine Nd.mk (by omega) ?_ | (refine Nd.mk ?_ ?_; focus ((repeat' (first | exact trivial | exact wkE_refl _ | refine And.intro ?_ ?_)); done)) | refine RdN.intro _ rfl (by rfl) ?_); (conv => whnf))))
            refine LdN.one (a := some ⟨rb, 0, none⟩) (q := 3) (.slice (some ⟨vb, 0, none⟩) l.length l.length) rfl (fun w hw => hw.2.2.2.1) rfl ?_
            ((conv => whnf); (repeat ((first | refine BoxN.own ?_ | refine VrN.norm (wrap_i64 (by omega)) ?_ | refine VrN.keep ?_ | refine DrawN.calm (by decide +kernel) ?_ | refine Nd.mk (by decide +kernel) ?_ | refine Nd.mk (by omega) ?_ | (refine Nd.mk ?_ ?_; focus ((repeat' (first | exact trivial | exact wkE_refl _ | refine And.intro ?_ ?_)); done)) | refine RdN.intro _ rfl (by rfl) ?_); (conv => whnf))))
            refine RwN.known [_] rfl fun nb => ?_
            ((conv => whnf); (repeat ((first | refine BoxN.own ?_ | refine VrN.norm (wrap_i64 (by omega)) ?_ | refine VrN.keep ?_ | refine DrawN.calm (by decide +kernel) ?_ | refine Nd.mk (by decide +kernel) ?_ | refine Nd.mk (by omega) ?_ | (refine Nd.mk ?_ ?_; focus ((repeat' (first | exact trivial | exact wkE_refl _ | refine And.intro ?_ ?_)); done)) | refine RdN.intro _ rfl (by rfl) ?_); (conv => whnf))))
            try refine Nd.mk ⟨rfl, by omega, by omega⟩ ?_
            ((conv => whnf); (repeat ((first | refine BoxN.own ?_ | refine VrN.norm (wrap_i64 (by omega)) ?_ | refine VrN.keep ?_ | refine DrawN.calm (by decide +kernel) ?_ | refine Nd.mk (by decide +kernel) ?_ | refine Nd.mk (by omega) ?_ | (refine Nd.mk ?_ ?_; focus ((repeat' (first | exact trivial | exact wkE_refl _ | refine And.intro ?_ ?_)); done)) | refine RdN.intro _ rfl (by rfl) ?_); (conv => whnf))))
            have hi8 : i < 8 := by omega
            have he2 : finS s1.given (i + 1) (l.drop (i + 1)) (fun j => (upd v i ⟨[o.dflt], some nb, 1⟩ j).xs) = finS s1.given 0 l s1.vals := by
              rw [show (fun j => (upd v i ⟨[o.dflt], some nb, 1⟩ j).xs) = upd (fun j => (v j).xs) i [o.dflt] from funext fun j => upd_xs v i _ j]
              exact he
            clear he hgi ho
            rcases i with _ | _ | _ | _ | _ | _ | _ | _ | i
            · -- 0: which one, 6: its entry, 3: that of the row
              refine EffW.swp 6 15 rfl rfl rfl ?_
              refine EffW.appTo (i := 3) (q := 0) (ys := [vlV ⟨[o.dflt], some nb, 1⟩]) (vC l.length (upd v 0 ⟨[o.dflt], some nb, 1⟩)) 1 rfl rfl rfl rfl rfl rfl rfl (by show 0 + 1 ≤ l.length * 1; omega) (vC_set v _ hil) rfl ?_
              (first | refine wX ?_ | exact wZ)
              refine ⟨⟨0 + 1, upd v 0 ⟨[o.dflt], some nb, 1⟩⟩, ⟨by omega, he2⟩, by show l.length - (0 + 1) < l.length - 0; omega, ?_, ⟨wkE_refl _, wkE_refl _, wkE_refl _, wkE_refl _, wkE_refl _, wkE_refl _, wkE_refl _, wkE_refl _, wkE_refl _, wkE_refl _, wkE_refl _, wkE_refl _, wkE_refl _, wkE_refl _, wkH_nil _⟩⟩
              (repeat' (first | exact trivial | refine And.intro (by with_reducible rfl) ?_ | (with_reducible exact wkC_refl _) | (with_reducible exact wkCs_refl _) | refine And.intro ?_ ?_))
              all_goals first | rfl | exact av_int (by rw [wrap_i64 (by omega)]; omega)
            · -- 1: which one, 7: its entry, 3: that of the row
              refine EffW.swp 7 15 rfl rfl rfl ?_
              refine EffW.appTo (i := 3) (q := 1) (ys := [vlV ⟨[o.dflt], some nb, 1⟩]) (vC l.length (upd v 1 ⟨[o.dflt], some nb, 1⟩)) 1 rfl rfl rfl rfl rfl rfl rfl (by show 1 + 1 ≤ l.length * 1; omega) (vC_set v _ hil) rfl ?_
              (first | refine wX ?_ | exact wZ)
              refine ⟨⟨1 + 1, upd v 1 ⟨[o.dflt], some nb, 1⟩⟩, ⟨by omega, he2⟩, by show l.length - (1 + 1) < l.length - 1; omega, ?_, ⟨wkE_refl _, wkE_refl _, wkE_refl _, wkE_refl _, wkE_refl _, wkE_refl _, wkE_refl _, wkE_refl _, wkE_refl _, wkE_refl _, wkE_refl _, wkE_refl _, wkE_refl _, wkE_refl _, wkH_nil _⟩⟩
              (repeat' (first | exact trivial | refine And.intro (by with_reducible rfl) ?_ | (with_reducible exact wkC_refl _) | (with_reducible exact wkCs_refl _) | refine And.intro ?_ ?_))
              all_goals first | rfl | exact av_int (by rw [wrap_i64 (by omega)]; omega)
            · -- 2: which one, 8: its entry, 3: that of the row
              refine EffW.swp 8 15 rfl rfl rfl ?_
              refine EffW.appTo (i := 3) (q := 2) (ys := [vlV ⟨[o.dflt], some nb, 1⟩]) (vC l.length (upd v 2 ⟨[o.dflt], some nb, 1⟩)) 1 rfl rfl rfl rfl rfl rfl rfl (by show 2 + 1 ≤ l.length * 1; omega) (vC_set v _ hil) rfl ?_
              (first | refine wX ?_ | exact wZ)
              refine ⟨⟨2 + 1, upd v 2 ⟨[o.dflt], some nb, 1⟩⟩, ⟨by omega, he2⟩, by show l.length - (2 + 1) < l.length - 2; omega, ?_, ⟨wkE_refl _, wkE_refl _, wkE_refl _, wkE_refl _, wkE_refl _, wkE_refl _, wkE_refl _, wkE_refl _, wkE_refl _, wkE_refl _, wkE_refl _, wkE_refl _, wkE_refl _, wkE_refl _, wkH_nil _⟩⟩
              (repeat' (first | exact trivial | refine And.intro (by with_reducible rfl) ?_ | (with_reducible exact wkC_refl _) | (with_reducible exact wkCs_refl _) | refine And.intro ?_ ?_))
              all_goals first | rfl | exact av_int (by rw [wrap_i64 (by omega)]; omega)
            · -- 3: which one, 9: its entry, 3: that of the row
              refine EffW.swp 9 15 rfl rfl rfl ?_
              refine EffW.appTo (i := 3) (q := 3) (ys := [vlV ⟨[o.dflt], some nb, 1⟩]) (vC l.length (upd v 3 ⟨[o.dflt], some nb, 1⟩)) 1 rfl rfl rfl rfl rfl rfl rfl (by show 3 + 1 ≤ l.length * 1; omega) (vC_set v _ hil) rfl ?_
              (first | refine wX ?_ | exact wZ)
              refine ⟨⟨3 + 1, upd v 3 ⟨[o.dflt], some nb, 1⟩⟩, ⟨by omega, he2⟩, by show l.length - (3 + 1) < l.length - 3; omega, ?_, ⟨wkE_refl _, wkE_refl _, wkE_refl _, wkE_refl _, wkE_refl _, wkE_refl _, wkE_refl _, wkE_refl _, wkE_refl _, wkE_refl _, wkE_refl _, wkE_refl _, wkE_refl _, wkE_refl _, wkH_nil _⟩⟩
              (repeat' (first | exact trivial | refine And.intro (by with_reducible rfl) ?_ | (with_reducible exact wkC_refl _) | (with_reducible exact wkCs_refl _) | refine And.intro ?_ ?_))
              all_goals first | rfl | exact av_int (by rw [wrap_i64 (by omega)]; omega)
            · -- 4: which one, 10: its entry, 3: that of the row
              refine EffW.swp 10 15 rfl rfl rfl ?_
              refine EffW.appTo (i := 3) (q := 4) (ys := [vlV ⟨[o.dflt], some nb, 1⟩]) (vC l.length (upd v 4 ⟨[o.dflt], some nb, 1⟩)) 1 rfl rfl rfl rfl rfl rfl rfl (by show 4 + 1 ≤ l.length * 1; omega) (vC_set v _ hil) rfl ?_
              (first | refine wX ?_ | exact wZ)
              refine ⟨⟨4 + 1, upd v 4 ⟨[o.dflt], some nb, 1⟩⟩, ⟨by omega, he2⟩, by show l.length - (4 + 1) < l.length - 4; omega, ?_, ⟨wkE_refl _, wkE_refl _, wkE_refl _, wkE_refl _, wkE_refl _, wkE_refl _, wkE_refl _, wkE_refl _, wkE_refl _, wkE_refl _, wkE_refl _, wkE_refl _, wkE_refl _, wkE_refl _, wkH_nil _⟩⟩
              (repeat' (first | exact trivial | refine And.intro (by with_reducible rfl) ?_ | (with_reducible exact wkC_refl _) | (with_reducible exact wkCs_refl _) | refine And.intro ?_ ?_))
              all_goals first | rfl | exact av_int (by rw [wrap_i64 (by omega)]; omega)
            · -- 5: which one, 11: its entry, 3: that of the row
              refine EffW.swp 11 15 rfl rfl rfl ?_
              refine EffW.appTo (i := 3) (q := 5) (ys := [vlV ⟨[o.dflt], some nb, 1⟩]) (vC l.length (upd v 5 ⟨[o.dflt], some nb, 1⟩)) 1 rfl rfl rfl rfl rfl rfl rfl (by show 5 + 1 ≤ l.length * 1; omega) (vC_set v _ hil) rfl ?_
              (first | refine wX ?_ | exact wZ)
              refine ⟨⟨5 + 1, upd v 5 ⟨[o.dflt], some nb, 1⟩⟩, ⟨by omega, he2⟩, by show l.length - (5 + 1) < l.length - 5; omega, ?_, ⟨wkE_refl _, wkE_refl _, wkE_refl _, wkE_refl _, wkE_refl _, wkE_refl _, wkE_refl _, wkE_refl _, wkE_refl _, wkE_refl _, wkE_refl _, wkE_refl _, wkE_refl _, wkE_refl _, wkH_nil _⟩⟩
              (repeat' (first | exact trivial | refine And.intro (by with_reducible rfl) ?_ | (with_reducible exact wkC_refl _) | (with_reducible exact wkCs_refl _) | refine And.intro ?_ ?_))
              all_goals first | rfl | exact av_int (by rw [wrap_i64 (by omega)]; omega)
            · -- 6: which one, 12: its entry, 3: that of the row
              refine EffW.swp 12 15 rfl rfl rfl ?_
              refine EffW.appTo (i := 3) (q := 6) (ys := [vlV ⟨[o.dflt], some nb, 1⟩]) (vC l.length (upd v 6 ⟨[o.dflt], some nb, 1⟩)) 1 rfl rfl rfl rfl rfl rfl rfl (by show 6 + 1 ≤ l.length * 1; omega) (vC_set v _ hil) rfl ?_
              (first | refine wX ?_ | exact wZ)
              refine ⟨⟨6 + 1, upd v 6 ⟨[o.dflt], some nb, 1⟩⟩, ⟨by omega, he2⟩, by show l.length - (6 + 1) < l.length - 6; omega, ?_, ⟨wkE_refl _, wkE_refl _, wkE_refl _, wkE_refl _, wkE_refl _, wkE_refl _, wkE_refl _, wkE_refl _, wkE_refl _, wkE_refl _, wkE_refl _, wkE_refl _, wkE_refl _, wkE_refl _, wkH_nil _⟩⟩
              (repeat' (first | exact trivial | refine And.intro (by with_reducible rfl) ?_ | (with_reducible exact wkC_refl _) | (with_reducible exact wkCs_refl _) | refine And.intro ?_ ?_))
              all_goals first | rfl | exact av_int (by rw [wrap_i64 (by omega)]; omega)
            · -- 7: which one, 13: its entry, 3: that of the row
              refine EffW.swp 13 15 rfl rfl rfl ?_
              refine EffW.appTo (i := 3) (q := 7) (ys := [vlV ⟨[o.dflt], some nb, 1⟩]) (vC l.length (upd v 7 ⟨[o.dflt], some nb, 1⟩)) 1 rfl rfl rfl rfl rfl rfl rfl (by show 7 + 1 ≤ l.length * 1; omega) (vC_set v _ hil) rfl ?_
              (first | refine wX ?_ | exact wZ)
              refine ⟨⟨7 + 1, upd v 7 ⟨[o.dflt], some nb, 1⟩⟩, ⟨by omega, he2⟩, by show l.length - (7 + 1) < l.length - 7; omega, ?_, ⟨wkE_refl _, wkE_refl _, wkE_refl _, wkE_refl _, wkE_refl _, wkE_refl _, wkE_refl _, wkE_refl _, wkE_refl _, wkE_refl _, wkE_refl _, wkE_refl _, wkE_refl _, wkE_refl _, wkH_nil _⟩⟩
              (repeat' (first | exact trivial | refine And.intro (by with_reducible rfl) ?_ | (with_reducible exact wkC_refl _) | (with_reducible exact wkCs_refl _) | refine And.intro ?_ ?_))
              all_goals first | rfl | exact av_int (by rw [wrap_i64 (by omega)]; omega)
            · omega
      · have hin : i = l.length := by omega
        subst hin
        rw [List.drop_of_length_le (Nat.le_refl _)] at he
        obtain rfl : p = ({ s1 with vals := fun j => (v j).xs }, 0, 0) := by rw [hpe2, ← he]; rfl
        (first | refine wX ?_ | exact wZ)
        refine LdN.agg (a := some ⟨rb, 0, none⟩) (q := 3) [.slice (some ⟨vb, 0, none⟩) l.length l.length, .slice (some ⟨gb, 0, none⟩) l.length l.length, vlV left] rfl (fun w hw => hw.2.2.2.1) rfl (fun j hj => by
          have hj3 : j < 3 := hj
          clear hj
          rcases j with _ | _ | _ | j <;> first | rfl | omega) ?_
        (first | refine wX ?_ | exact wZ)
        refine fin_p (ResF l.length vb gb v s1.given left) (.inr ⟨rfl, vb, gb, v, left, rfl, fun _ => rfl, hln, hgl2, fun w hw => hw⟩) fun w hw => ⟨hw.2.2.1, hw.2.1, hw.2.2.2.2.1, fun j hj => ?_⟩
        rcases j with _ | _ | _ | _ | _ | _ | _ | _ | j
        · exact hw.2.2.2.2.2.1
        · exact hw.2.2.2.2.2.2.1
        · exact hw.2.2.2.2.2.2.2.1
        · exact hw.2.2.2.2.2.2.2.2.1
        · exact hw.2.2.2.2.2.2.2.2.2.1
        · exact hw.2.2.2.2.2.2.2.2.2.2.1
        · exact hw.2.2.2.2.2.2.2.2.2.2.2.1
        · exact hw.2.2.2.2.2.2.2.2.2.2.2.2.1
        · omega
end Go.Proofs.YteljlkkppaobeaaGreatDoor

/-
  Contracts: options and words that numbers make (document), options for the program.
-/
namespace Go.Proofs.YteljlkkppaobeaaGreatDoor
open Go.AX Go.RowKit Go.Opts
set_option maxRecDepth 20000

end Go.Proofs.YteljlkkppaobeaaGreatDoor

/-
  AX, twenty-seventh text: arguments that are slices of structs.
-/
namespace Go.AX
open Go.ChangeShapes Go.WideShapes Go.ChangeAt Go.RowKit

section
variable {H : Type} {enc : TypeId × Value → H} {P : Program} {w : World}
end
end Go.AX

/-
  AX, thirty-seventh text: slices that stand in the cells of a slice's structs.
-/
namespace Go.AX
open Go.ChangeShapes Go.WideShapes Go.ChangeAt Go.RowKit
section
variable {H : Type} {enc : TypeId × Value → H} {P : Program} {w : World}
end
/-- Facts of all of a list. -/
theorem Imm.all {α : Type} {S : Nat → Prop} {w : World} {l : List α} {F : α → World → Prop} (h : ∀ x ∈ l, Imm S w (F x)) : Imm S w fun w => ∀ x ∈ l, F x w :=
  ⟨fun x hx => (h x hx).1, fun w' hw x hx => (h x hx).2 w' hw⟩
end Go.AX

/-
  Contracts: options for the program; texts that are compared; the chapter's example.
-/
namespace Go.Proofs.YteljlkkppaobeaaGreatDoor
open Go.AX Go.RowKit Go.Opts
set_option maxRecDepth 20000

theorem texts_c (a b : Option Addr) (l m : List (List UInt8)) (ca cb : Nat) (ha : a = none → l = []) (hb : b = none → m = []) (hl : l.length ≤ 200000000000000) (_hm : m.length ≤ 200000000000000) :
    ∀ H, (∀ w, Facts H w → SlAt a (l.length * 1) (strC l) w ∧ SlAt b (m.length * 1) (strC m) w) → SpecH Tryz.prog 9 (pvs [.slice a l.length ca, .slice b m.length cb]) H (Ret (.bool (decide (l = m))) H) := by
  refine factC hm Tryz.func9 (by kernel_rfl) rfl rfl ?_
  (first | refine wX ?_ | exact wZ)
  refine brd_ne (fun h0 => ?_) (fun h0 => ?_)
  · (first | refine wX ?_ | exact wZ)
    exact out_bool (decide_eq_false (fun h => h0 (by rw [h]))).symm
  have hlm : l.length = m.length := by omega
  (first | refine wX ?_ | exact wZ)
  refine loopS Nat (fun i => i ≤ l.length ∧ l.take i = m.take i) (fun i => mkS Tryz.f9.ntmps 0 [(0, .c (.v (.slice a l.length ca))), (1, .c (.v (.slice b m.length cb))), (5, .c (.v (.int .i64 (i : Int))))]) (fun i => l.length - i) rfl (fun _ => rfl) 0 ⟨Nat.zero_le _, rfl⟩ ?_ ?_
  · (repeat' (first | exact trivial | refine And.intro (by with_reducible rfl) ?_ | (with_reducible exact wkC_refl _) | (with_reducible exact wkCs_refl _) | refine And.intro ?_ ?_))
    all_goals rfl
  intro i ⟨hi, heq⟩
  (first | refine wX ?_ | exact wZ)
  refine brd_dec (fun h1 => ?_) (fun h1 => ?_)
  · obtain ⟨p, hp⟩ : ∃ p, l[i]? = some p := ⟨_, List.getElem?_eq_getElem (by omega)⟩
    obtain ⟨q, hq⟩ : ∃ q, m[i]? = some q := ⟨_, List.getElem?_eq_getElem (by omega)⟩
    have hsa : a.isSome = true := by
      cases a with
      | none => rw [ha rfl] at hp; cases hp
      | some b => rfl
    have hsb : b.isSome = true := by
      cases b with
      | none => rw [hb rfl] at hq; cases hq
      | some b => rfl
    (first | refine wX ?_ | exact wZ)
    refine Nd.mk ⟨hsa, by omega, by omega⟩ ?_
    (first | refine wX ?_ | exact wZ)
    refine LdN.one (.string (bs p)) rfl (fun w hw => hw.1.1) (by rw [Int.toNat_natCast]; show (strC l)[i * 1]? = _; rw [Nat.mul_one]; exact strC_get hp) ?_
    (first | refine wX ?_ | exact wZ)
    refine Nd.mk ⟨hsb, by omega, by omega⟩ ?_
    (first | refine wX ?_ | exact wZ)
    refine LdN.one (.string (bs q)) rfl (fun w hw => hw.1.2) (by rw [Int.toNat_natCast]; show (strC m)[i * 1]? = _; rw [Nat.mul_one]; exact strC_get hq) ?_
    (first | refine wX ?_ | exact wZ)
    rw [name_eq]
    cases hpq : p == q with
    | true =>
      have e : p = q := eq_of_beq hpq
      (first | refine wX ?_ | exact wZ)
      refine ⟨i + 1, ⟨by omega, by rw [List.take_add_one, List.take_add_one, heq, hp, hq, e]⟩, by omega, ?_, by (repeat' (first | exact trivial | exact wkE_refl _ | refine And.intro ?_ ?_))⟩
      (repeat' (first | exact trivial | refine And.intro (by with_reducible rfl) ?_ | (with_reducible exact wkC_refl _) | (with_reducible exact wkCs_refl _) | refine And.intro ?_ ?_))
      all_goals first | rfl | exact av_int (by rw [wrap_i64 (by omega)]; omega)
    | false =>
      (first | refine wX ?_ | exact wZ)
      refine out_bool (decide_eq_false (fun h => ?_)).symm
      rw [h, hq] at hp
      rw [Option.some.inj hp] at hpq
      simp at hpq
  · have hin : i = l.length := by omega
    subst hin
    rw [List.take_length, hlm, List.take_length] at heq
    (first | refine wX ?_ | exact wZ)
    exact out_bool (decide_eq_true heq).symm
theorem vl_none {v : VL} {w : World} (h : VlF v w) (hn : at0 v.a = none) : v.xs = [] := by
  rcases Nat.eq_zero_or_pos (v.xs.length * 1) with h0 | h0
  · exact List.eq_nil_of_length_eq_zero (by omega)
  · have := h.2.1 h0
    rw [hn] at this
    cases this
def saneL : List Opt := [⟨nameG 0, 118, 3, [], false⟩, ⟨nameG 1, 111, 1, [], false⟩]
def saneW : List (List UInt8) := [[45, 118, 118, 111], [120], [121]]
theorem sane_parse : (parseS saneL saneW false).2 = (0, 0) ∧ (parseS saneL saneW false).1.given = [2, 1] ∧ (parseS saneL saneW false).1.vals 1 = [[120]] ∧ (parseS saneL saneW false).1.left = [[121]] := by decide +kernel
set_option maxHeartbeats 1000000 in
theorem sane_c : ∀ H, (∀ w, Facts H w → MaxF w) → SpecH Tryz.prog 5 (pvs []) H (Ret (.bool true) H) := by
  refine factC hm Tryz.func5 (by kernel_rfl) rfl rfl ?_
  (first | refine wX ?_ | exact wZ)
  refine SpecH.freeze (callOk Tryz.func10 (by kernel_rfl) rfl) 1 rfl rfl fun lb lc hlc => ?_
  refine SpecH.freeze (callOk Tryz.func10 (by kernel_rfl) rfl) 2 rfl rfl fun wb wc hwc => ?_
  refine SpecH.plain rfl ?_
  refine SpecF.call (Parse_c (some lb) lc saneL (some ⟨wb, 0, none⟩) wc saneW (fun h => by cases h) hlc (by decide) (by decide) (fun h => by cases h) hwc (by decide)) (fun w hw => ⟨RowF.sl hw.2.1, RowF.sl hw.2.2.1, hw.1⟩) fun v G hR => ?_
  obtain ⟨p1, p2, p3, p4⟩ := sane_parse
  generalize parseS saneL saneW false = p at *
  obtain ⟨s1, at1, e1⟩ := p
  obtain ⟨rfl, rfl⟩ := Prod.mk.inj p1
  rcases hR with ⟨h, _⟩ | ⟨_, vb, gb, v, left, rfl, hv, hln, hgl, hG⟩
  · exact absurd rfl h
  simp only at hv hln hgl p2 p3 p4
  rw [p4] at hln
  (first | refine wX ?_ | exact wZ)
  refine Nd.mk ⟨rfl, by decide, by decide⟩ ?_
  (first | refine wX ?_ | exact wZ)
  refine LdN.one (.int .i64 2) rfl (fun w hw => (hG w hw.2.2.2.1).2.1) (by rw [p2]; rfl) ?_
  (first | refine wX ?_ | exact wZ)
  refine Nd.mk ⟨rfl, by decide, by decide⟩ ?_
  (first | refine wX ?_ | exact wZ)
  refine LdN.one (vlV (v 1)) rfl (fun w hw => (hG w hw.2.2.2.1).1) rfl ?_
  (first | refine wX ?_ | exact wZ)
  have hv1 : (v 1).xs = [[120]] := (hv 1).trans p3
  refine SpecH.freeze (callOk Tryz.func9 (by kernel_rfl) rfl) 5 rfl rfl fun xb xc hxc => ?_
  refine SpecH.plain rfl ?_
  refine SpecH.know (callOk Tryz.func9 (by kernel_rfl) rfl) (at0 (v 1).a = none → (v 1).xs = []) (fun w hw h => vl_none ((hG w hw.2.2.2.1).2.2.2 1 (by decide)) h) fun hn1 => ?_
  refine call1 (texts_c (at0 (v 1).a) (some ⟨xb, 0, none⟩) (v 1).xs [[120]] (v 1).c xc hn1 (fun h => by cases h) (by rw [hv1]; decide) (by decide) _ (fun w hw => ⟨(hG w hw.2.2.2.1).2.2.2 1 (by decide), RowF.sl hw.2.2.2.2.1⟩)) ?_
  rw [decide_eq_true hv1]
  (first | refine wX ?_ | exact wZ)
  refine SpecH.freeze (callOk Tryz.func9 (by kernel_rfl) rfl) 6 rfl rfl fun yb yc hyc => ?_
  refine SpecH.plain rfl ?_
  refine SpecH.know (callOk Tryz.func9 (by kernel_rfl) rfl) (at0 left.a = none → left.xs = []) (fun w hw h => vl_none ((hG w hw.2.2.2.1).2.2.1) h) fun hn2 => ?_
  refine call1 (texts_c (at0 left.a) (some ⟨yb, 0, none⟩) left.xs [[121]] left.c yc hn2 (fun h => by cases h) (by rw [hln]; decide) (by decide) _ (fun w hw => ⟨(hG w hw.2.2.2.1).2.2.1, RowF.sl hw.2.2.2.2.2.1⟩)) ?_
  rw [decide_eq_true hln]
  (first | refine wX ?_ | exact wZ)
end Go.Proofs.YteljlkkppaobeaaGreatDoor

/-
  What the rows list; what every call knows.
-/
namespace Go.Proofs.YteljlkkppaobeaaGreatDoor
open Go.ChangeShapes Go.WideShapes Go.ChangeAt Go.RowKit Go.AX
set_option maxRecDepth 100000

/-- What the rows list. -/
def laid3 : List (String × DataW Unit) := [("unicode/utf8.acceptRanges", Rows.laid_unicode_utf8_acceptRanges), ("unicode.CaseRanges", Rows.laid_unicode_CaseRanges), ("unicode/utf8.first", Rows.laid_unicode_utf8_first)]
theorem door_met (os : Os) (args : Array Value) : laidMetH Tryz.prog laid3 ((World.laidAll Tryz.prog os laid3).forCall (fun _ _ => 0) ⟨#[], args, []⟩).memory := by
  rw [MakeChecks.laidMetH_plain _ _ _ (by kernel_rfl)]; exact laidMet_laidAll _ (by kernel_rfl) (by kernel_rfl)
end Go.Proofs.YteljlkkppaobeaaGreatDoor

/-
  Plain: a line cut into words (program, document); words that are written to be cut again.
-/
namespace Go.Opts

/-- What stands in quotes of two strokes: its bytes, and what is behind. -/
def quoS : Nat → List UInt8 → List UInt8 → Option (List UInt8 × List UInt8)
  | 0, _, _ => none
  | _ + 1, [], _ => none
  | n + 1, c :: r, acc => if c == 34 then some (acc, r) else if c == 92 && (r.head? == some 34 || r.head? == some 92) then quoS n (r.drop 1) (acc ++ [r.headD 0]) else quoS n r (acc ++ [c])
theorem quoS_fuel : ∀ (n m : Nat) (s acc : List UInt8), s.length < n → s.length < m → quoS n s acc = quoS m s acc
  | 0, _, _, _, h, _ => by omega
  | _, 0, _, _, _, h => by omega
  | n + 1, m + 1, [], acc, _, _ => rfl
  | n + 1, m + 1, c :: r, acc, h, k => by
    rw [List.length_cons] at h k
    unfold quoS
    rw [quoS_fuel n m (r.drop 1) _ (by rw [List.length_drop]; omega) (by rw [List.length_drop]; omega), quoS_fuel n m r _ (by omega) (by omega)]
def quo (s acc : List UInt8) : Option (List UInt8 × List UInt8) := quoS (s.length + 1) s acc
theorem quo_nil (acc : List UInt8) : quo [] acc = none := rfl
theorem quo_cons (c : UInt8) (r acc : List UInt8) : quo (c :: r) acc = if c == 34 then some (acc, r) else if c == 92 && (r.head? == some 34 || r.head? == some 92) then quo (r.drop 1) (acc ++ [r.headD 0]) else quo r (acc ++ [c]) := by
  unfold quo
  rw [List.length_cons]
  conv => lhs; unfold quoS
  rw [quoS_fuel (r.length + 1) ((r.drop 1).length + 1) (r.drop 1) _ (by rw [List.length_drop]; omega) (by omega)]
theorem quo_len : ∀ (n : Nat) (s acc : List UInt8) (x : List UInt8 × List UInt8), s.length < n → quo s acc = some x → x.2.length < s.length ∧ (∃ p, s = p ++ x.2) ∧ x.1.length + x.2.length < acc.length + s.length
  | 0, _, _, _, h, _ => by omega
  | n + 1, [], acc, x, _, h => by rw [quo_nil] at h; cases h
  | n + 1, c :: r, acc, x, hn, h => by
    rw [List.length_cons] at hn ⊢
    rw [quo_cons] at h
    split at h
    · cases h
      exact ⟨Nat.lt_succ_self _, ⟨[c], rfl⟩, by simp only; omega⟩
    split at h
    · rename_i h1 h2
      obtain ⟨h3, ⟨p, hp⟩, h5⟩ := quo_len n _ _ x (by rw [List.length_drop]; omega) h
      rw [List.length_drop] at h3
      rw [List.length_append, List.length_drop, List.length_singleton] at h5
      refine ⟨by omega, ⟨c :: (r.take 1 ++ p), ?_⟩, by omega⟩
      rw [List.cons_append, List.append_assoc, ← hp, List.take_append_drop]
    · obtain ⟨h3, ⟨p, hp⟩, h5⟩ := quo_len n _ _ x (by omega) h
      rw [List.length_append, List.length_singleton] at h5
      exact ⟨by omega, ⟨c :: p, by rw [List.cons_append, ← hp]⟩, by omega⟩
/-- The place of a byte. -/
def plc (c : UInt8) : List UInt8 → Option Nat
  | [] => none
  | d :: r => if d == c then some 0 else (plc c r).map (· + 1)
theorem plc_lib (c : UInt8) : ∀ s : List UInt8, Lib.indexByte s c = match plc c s with | none => -1 | some k => (k : Int)
  | [] => rfl
  | d :: r => by
    have ih := plc_lib c r
    unfold Lib.indexByte plc
    by_cases h : (d == c) = true
    · rw [if_pos h, if_pos h]; rfl
    · rw [if_neg h, if_neg h]
      cases hp : plc c r with
      | none =>
        rw [hp] at ih
        simp only at ih
        rw [ih]
        rfl
      | some k =>
        rw [hp] at ih
        simp only at ih
        rw [ih, if_neg (by simp)]
        rfl
theorem plc_lt {c : UInt8} : ∀ {s : List UInt8} {k : Nat}, plc c s = some k → k < s.length
  | [], k, h => by cases h
  | d :: r, k, h => by
    unfold plc at h
    split at h
    · cases h; simp
    · obtain ⟨j, hj, rfl⟩ := Option.map_eq_some_iff.1 h
      have := plc_lt hj
      rw [List.length_cons]
      omega
/-- The words of a line (program): none where a quote or a backslash is open. -/
def wordsS : Nat → List UInt8 → List UInt8 → Bool → List (List UInt8) → Option (List (List UInt8))
  | 0, _, _, _, _ => none
  | _ + 1, [], w, b, out => some (if b then out ++ [w] else out)
  | n + 1, c :: r, w, b, out =>
    if c == 32 || c == 9 then wordsS n r [] false (if b then out ++ [w] else out)
    else if c == 39 then match plc 39 r with
      | none => none
      | some k => wordsS n (r.drop (k + 1)) (w ++ r.take k) true out
    else if c == 34 then match quo r [] with
      | none => none
      | some x => wordsS n x.2 (w ++ x.1) true out
    else if c == 92 then match r with
      | [] => none
      | d :: r => wordsS n r (w ++ [d]) true out
    else wordsS n r (w ++ [c]) true out
theorem wordsS_fuel : ∀ (n m : Nat) (s w : List UInt8) (b : Bool) (out : List (List UInt8)), s.length < n → s.length < m → wordsS n s w b out = wordsS m s w b out
  | 0, _, _, _, _, _, h, _ => by omega
  | _, 0, _, _, _, _, _, h => by omega
  | n + 1, m + 1, [], w, b, out, _, _ => rfl
  | n + 1, m + 1, c :: r, w, b, out, h, k => by
    rw [List.length_cons] at h k
    unfold wordsS
    split
    · exact wordsS_fuel n m r _ _ _ (by omega) (by omega)
    split
    · cases plc 39 r with
      | none => rfl
      | some j => exact wordsS_fuel n m _ _ _ _ (by rw [List.length_drop]; omega) (by rw [List.length_drop]; omega)
    split
    · cases hq : quo r [] with
      | none => rfl
      | some x =>
        have := (quo_len (r.length + 1) r [] x (by omega) hq).1
        exact wordsS_fuel n m _ _ _ _ (by omega) (by omega)
    split
    · cases r with
      | nil => rfl
      | cons d r =>
        rw [List.length_cons] at h k
        exact wordsS_fuel n m _ _ _ _ (by omega) (by omega)
    · exact wordsS_fuel n m r _ _ _ (by omega) (by omega)
def words (s w : List UInt8) (b : Bool) (out : List (List UInt8)) : Option (List (List UInt8)) := wordsS (s.length + 1) s w b out
theorem words_nil (w : List UInt8) (b : Bool) (out : List (List UInt8)) : words [] w b out = some (if b then out ++ [w] else out) := rfl
theorem words_cons (c : UInt8) (r w : List UInt8) (b : Bool) (out : List (List UInt8)) : words (c :: r) w b out =
    if c == 32 || c == 9 then words r [] false (if b then out ++ [w] else out)
    else if c == 39 then match plc 39 r with
      | none => none
      | some k => words (r.drop (k + 1)) (w ++ r.take k) true out
    else if c == 34 then match quo r [] with
      | none => none
      | some x => words x.2 (w ++ x.1) true out
    else if c == 92 then match r with
      | [] => none
      | d :: r => words r (w ++ [d]) true out
    else words r (w ++ [c]) true out := by
  unfold words
  rw [List.length_cons]
  conv => lhs; unfold wordsS
  split
  · rfl
  split
  · cases plc 39 r with
    | none => rfl
    | some j => exact wordsS_fuel _ _ _ _ _ _ (by rw [List.length_drop]; omega) (by omega)
  split
  · cases hq : quo r [] with
    | none => rfl
    | some x =>
      have := (quo_len (r.length + 1) r [] x (by omega) hq).1
      exact wordsS_fuel _ _ _ _ _ _ (by omega) (by omega)
  split
  · cases r with
    | nil => rfl
    | cons d r => exact wordsS_fuel _ _ _ _ _ _ (by rw [List.length_cons]; omega) (by omega)
  · rfl
/-- The words of a line (document): q is the quote that is open, 0 none. -/
def refS : Nat → List UInt8 → UInt8 → List UInt8 → Bool → List (List UInt8) → Option (List (List UInt8))
  | 0, _, _, _, _, _ => none
  | _ + 1, [], q, w, b, out => if q == 0 then some (if b then out ++ [w] else out) else none
  | n + 1, c :: r, q, w, b, out =>
    if q == 39 && !(c == q) then refS n r q (w ++ [c]) b out
    else if q == 34 && c == 92 && (r.head? == some 34 || r.head? == some 92) then refS n (r.drop 1) q (w ++ [r.headD 0]) b out
    else if !(q == 0) && c == q then refS n r 0 w b out
    else if !(q == 0) then refS n r q (w ++ [c]) b out
    else if c == 39 || c == 34 then refS n r c w true out
    else if c == 92 then match r with
      | [] => none
      | d :: r => refS n r q (w ++ [d]) true out
    else if c == 32 || c == 9 then refS n r q [] false (if b then out ++ [w] else out)
    else refS n r q (w ++ [c]) true out
theorem refS_fuel : ∀ (n m : Nat) (s : List UInt8) (q : UInt8) (w : List UInt8) (b : Bool) (out : List (List UInt8)), s.length < n → s.length < m → refS n s q w b out = refS m s q w b out
  | 0, _, _, _, _, _, _, h, _ => by omega
  | _, 0, _, _, _, _, _, _, h => by omega
  | n + 1, m + 1, [], q, w, b, out, _, _ => rfl
  | n + 1, m + 1, c :: r, q, w, b, out, h, k => by
    rw [List.length_cons] at h k
    have e1 : ∀ q w b out, refS n r q w b out = refS m r q w b out := fun q w b out => refS_fuel n m r q w b out (by omega) (by omega)
    have e2 : ∀ q w b out, refS n (r.drop 1) q w b out = refS m (r.drop 1) q w b out := fun q w b out => refS_fuel n m (r.drop 1) q w b out (by rw [List.length_drop]; omega) (by rw [List.length_drop]; omega)
    unfold refS
    simp only [e1, e2]
    cases r with
    | nil => rfl
    | cons d r =>
      have e3 : ∀ q w b out, refS n r q w b out = refS m r q w b out := fun q w b out => e2 q w b out
      simp only [e3]
def refW (s : List UInt8) (q : UInt8) (w : List UInt8) (b : Bool) (out : List (List UInt8)) : Option (List (List UInt8)) := refS (s.length + 1) s q w b out
theorem refW_nil (q : UInt8) (w : List UInt8) (b : Bool) (out : List (List UInt8)) : refW [] q w b out = if q == 0 then some (if b then out ++ [w] else out) else none := rfl
theorem refW_cons (c : UInt8) (r : List UInt8) (q : UInt8) (w : List UInt8) (b : Bool) (out : List (List UInt8)) : refW (c :: r) q w b out =
    if q == 39 && !(c == q) then refW r q (w ++ [c]) b out
    else if q == 34 && c == 92 && (r.head? == some 34 || r.head? == some 92) then refW (r.drop 1) q (w ++ [r.headD 0]) b out
    else if !(q == 0) && c == q then refW r 0 w b out
    else if !(q == 0) then refW r q (w ++ [c]) b out
    else if c == 39 || c == 34 then refW r c w true out
    else if c == 92 then match r with
      | [] => none
      | d :: r => refW r q (w ++ [d]) true out
    else if c == 32 || c == 9 then refW r q [] false (if b then out ++ [w] else out)
    else refW r q (w ++ [c]) true out := by
  have e2 : ∀ q w b out, refS (r.length + 1) (r.drop 1) q w b out = refW (r.drop 1) q w b out := fun q w b out => refS_fuel _ _ _ _ _ _ _ (by rw [List.length_drop]; omega) (by omega)
  have e1 : ∀ q w b out, refS (r.length + 1) r q w b out = refW r q w b out := fun _ _ _ _ => rfl
  conv => lhs; unfold refW
  rw [List.length_cons]
  unfold refS
  simp only [e1, e2]
  cases r with
  | nil => rfl
  | cons d r =>
    have e3 : ∀ q w b out, refS ((d :: r).length + 1) r q w b out = refW r q w b out := fun q w b out => e2 q w b out
    simp only [e3]
theorem ref_one (out : List (List UInt8)) : ∀ (s w : List UInt8), refW s 39 w true out = match plc 39 s with
    | none => none
    | some k => refW (s.drop (k + 1)) 0 (w ++ s.take k) true out
  | [], w => rfl
  | c :: r, w => by
    rw [refW_cons]
    unfold plc
    by_cases hc : (c == 39) = true
    · have : c = 39 := eq_of_beq hc
      subst this
      simp
    · rw [if_neg hc, if_pos (by simp [hc]), ref_one out r]
      cases plc 39 r with
      | none => rfl
      | some k => simp
theorem ref_two (out : List (List UInt8)) : ∀ (n : Nat) (s w acc : List UInt8), s.length < n → refW s 34 (w ++ acc) true out = match quo s acc with
    | none => none
    | some x => refW x.2 0 (w ++ x.1) true out
  | 0, _, _, _, h => by omega
  | n + 1, [], w, acc, _ => rfl
  | n + 1, c :: r, w, acc, h => by
    rw [List.length_cons] at h
    rw [refW_cons, quo_cons, if_neg (by simp)]
    by_cases h34 : (c == 34) = true
    · have : c = 34 := eq_of_beq h34
      subst this
      rw [if_neg (by simp), if_pos (by simp), if_pos h34]
    · rw [if_neg h34]
      by_cases he : (c == 92 && (r.head? == some 34 || r.head? == some 92)) = true
      · rw [if_pos (by simpa using he), if_pos he, List.append_assoc, ref_two out n _ _ _ (by rw [List.length_drop]; omega)]
      · rw [if_neg (by simpa using he), if_neg he, if_neg (by simp [h34]), if_pos (by simp), List.append_assoc, ref_two out n _ _ _ (by omega)]
/-- Both cut alike. -/
theorem words_ref : ∀ (n : Nat) (s w : List UInt8) (b : Bool) (out : List (List UInt8)), s.length < n → refW s 0 w b out = words s w b out
  | 0, _, _, _, _, h => by omega
  | n + 1, [], w, b, out, _ => rfl
  | n + 1, c :: r, w, b, out, h => by
    rw [List.length_cons] at h
    rw [refW_cons, words_cons, if_neg (by simp), if_neg (by simp), if_neg (by simp), if_neg (by simp)]
    by_cases h1 : (c == 32 || c == 9) = true
    · have h39 : ¬ (c == 39 || c == 34) = true := by
        rcases Bool.or_eq_true _ _ |>.mp h1 with h | h <;> (have := eq_of_beq h; subst this; decide)
      have h92 : ¬ (c == 92) = true := by
        rcases Bool.or_eq_true _ _ |>.mp h1 with h | h <;> (have := eq_of_beq h; subst this; decide)
      rw [if_neg h39, if_neg h92, if_pos h1, if_pos h1]
      exact words_ref n r _ _ _ (by omega)
    rw [if_neg h1, if_neg h1]
    by_cases h39 : (c == 39) = true
    · rw [if_pos (by simp [h39]), if_pos h39]
      have : c = 39 := eq_of_beq h39
      subst this
      rw [ref_one]
      cases hp : plc 39 r with
      | none => rfl
      | some k => exact words_ref n _ _ _ _ (by rw [List.length_drop]; omega)
    rw [if_neg h39]
    by_cases h34 : (c == 34) = true
    · rw [if_pos (by simp [h34]), if_pos h34]
      have : c = 34 := eq_of_beq h34
      subst this
      have := ref_two out (r.length + 1) r w [] (by omega)
      rw [List.append_nil] at this
      rw [this]
      cases hq : quo r [] with
      | none => rfl
      | some x =>
        have := (quo_len (r.length + 1) r [] x (by omega) hq).1
        exact words_ref n _ _ _ _ (by omega)
    rw [if_neg h34, if_neg (by simp [h39, h34])]
    by_cases h92 : (c == 92) = true
    · rw [if_pos h92, if_pos h92]
      cases r with
      | nil => rfl
      | cons d r =>
        rw [List.length_cons] at h
        exact words_ref n r _ _ _ (by omega)
    · rw [if_neg h92, if_neg h92]
      exact words_ref n r _ _ _ (by omega)
/-- A word as Quote writes it, between the strokes. -/
def escS (w : List UInt8) : List UInt8 := w.flatMap fun c => if c == 92 || c == 34 then [92, c] else [c]
def qte (w : List UInt8) : List UInt8 := 34 :: (escS w ++ [34])
def quoteS : List (List UInt8) → List UInt8
  | [] => []
  | [w] => qte w
  | w :: l => qte w ++ 32 :: quoteS l
theorem quo_esc : ∀ (w acc post : List UInt8), quo (escS w ++ 34 :: post) acc = some (acc ++ w, post)
  | [], acc, post => by
    show quo (34 :: post) acc = _
    rw [quo_cons, if_pos (by decide), List.append_nil]
  | c :: w, acc, post => by
    have ih := quo_esc w (acc ++ [c]) post
    rw [List.append_assoc, List.singleton_append] at ih
    show quo (((if c == 92 || c == 34 then [92, c] else [c]) ++ escS w) ++ 34 :: post) acc = _
    by_cases hc : (c == 92 || c == 34) = true
    · rw [if_pos hc]
      show quo (92 :: c :: (escS w ++ 34 :: post)) acc = _
      rw [quo_cons, if_neg (by decide), if_pos (by rcases Bool.or_eq_true _ _ |>.mp hc with h | h <;> (have := eq_of_beq h; subst this; rfl))]
      exact ih
    · rw [if_neg hc]
      show quo (c :: (escS w ++ 34 :: post)) acc = _
      rw [Bool.not_eq_true, Bool.or_eq_false_iff] at hc
      rw [quo_cons, if_neg (by simp [hc.2]), if_neg (by simp [hc.1])]
      exact ih
theorem words_qte (w post : List UInt8) (out : List (List UInt8)) : words (qte w ++ post) [] false out = words post w true out := by
  show words (34 :: ((escS w ++ [34]) ++ post)) [] false out = _
  rw [words_cons, if_neg (by decide), if_neg (by decide), if_pos (by decide), List.append_assoc]
  show (match quo (escS w ++ 34 :: post) [] with | none => none | some x => words x.2 ([] ++ x.1) true out) = _
  rw [quo_esc]
  rfl
/-- Words of Quote are the words. -/
theorem words_quote : ∀ (l out : List (List UInt8)), words (quoteS l) [] false out = some (out ++ l)
  | [], out => by rw [quoteS, words_nil]; simp
  | [w], out => by
    have := words_qte w [] out
    rw [List.append_nil] at this
    rw [quoteS, this, words_nil]
    rfl
  | w :: v :: l, out => by
    rw [quoteS, words_qte, words_cons, if_pos (by decide)]
    rw [if_pos rfl, words_quote (v :: l)]
    · simp
    · intro h; cases h
end Go.Opts

/-
  Contract: quoted (program).
-/
namespace Go.Proofs.YteljlkkppaobeaaGreatDoor
open Go.AX Go.RowKit Go.Opts
set_option maxRecDepth 20000

theorem u8s_snoc (l : List UInt8) (c : UInt8) : u8s l ++ [.int .u8 (c.toNat : Int)] = u8s (l ++ [c]) := by simp [u8s]
theorem drop_at {α : Type} {s : List α} {i : Nat} {c : α} (h : s[i]? = some c) : s.drop i = c :: s.drop (i + 1) := by
  obtain ⟨hlt, hx⟩ := List.getElem?_eq_some_iff.1 h
  rw [List.drop_eq_getElem_cons hlt, hx]
/-- What quoted answers. -/
def QuoR (s : List UInt8) (q : Option (List UInt8 × List UInt8)) (x : Value) (G : World → Prop) : Prop :=
  match q with
  | none => x = .tuple #[.slice none 0 0, .int .i64 (-1)]
  | some p => ∃ (ob : Option Nat) (cap : Nat), x = .tuple #[.slice (at0 ob) p.1.length cap, .int .i64 ((s.length - p.2.length : Nat) : Int)] ∧ (ob = none → p.1 = []) ∧ p.1.length ≤ cap ∧ ∀ w, G w → SlAt (at0 ob) p.1.length (u8s p.1) w
set_option maxHeartbeats 1000000 in
theorem quoted_c (s : List UInt8) (hs : s.length ≤ 1000000) : SpecF Tryz.prog 12 [.string (bs s)] (fun _ => True) (QuoR s (quo s [])) := by
  refine specF hm Tryz.func12 (by kernel_rfl) rfl rfl ?_
  have hz := bs_size s
  generalize hq : quo s [] = q
  (first | refine wX ?_ | exact wZ)
  refine LoopN.intro (Nat × List UInt8 × Option Nat × Nat) (fun ⟨i, acc, ob, cap⟩ => i ≤ s.length ∧ quo (s.drop i) acc = q ∧ acc.length ≤ i ∧ (ob = none → acc = []) ∧ acc.length ≤ cap) (fun ⟨i, acc, ob, cap⟩ => mkS Tryz.f12.ntmps 0 [(0, .c (.v (.string (bs s)))), (4, .c (.v (.slice (at0 ob) acc.length cap))), (5, .c (.v (.int .i64 (i : Int))))])
    (fun ⟨_, acc, ob, cap⟩ => [.fact fun _ => True, .app 5 1 (u8s acc) (at0 ob) acc.length cap]) (fun ⟨i, _, _, _⟩ => s.length - i) [.app 0 0 [] none 0 0] rfl (fun _ => rfl) (fun _ => rfl) (fun _ _ => okHB_eq rfl)
    ⟨⟨0, [], none, 0⟩, ⟨Nat.zero_le _, hq, Nat.le_refl _, fun _ => rfl, Nat.le_refl _⟩, ?_, ⟨wkE_refl _, wkE_nil, wkH_nil _⟩⟩ ?_
  · (repeat' (first | exact trivial | refine And.intro (by with_reducible rfl) ?_ | (with_reducible exact wkC_refl _) | (with_reducible exact wkCs_refl _) | refine And.intro ?_ ?_))
    all_goals rfl
  rintro ⟨i, acc, ob, cap⟩ ⟨hi, he, hal, hob, hac⟩
  (first | refine wX ?_ | exact wZ)
  rw [hz]
  refine brd_dec (fun h1 => ?_) (fun h1 => ?_)
  · obtain ⟨c, hc⟩ : ∃ c, s[i]? = some c := ⟨_, List.getElem?_eq_getElem (by omega)⟩
    have hcl := c.toNat_lt
    rw [drop_at hc, quo_cons] at he
    have hh : (s.drop (i + 1)).head? = s[i + 1]? := by rw [List.head?_drop]
    (first | refine wX ?_ | exact wZ)
    rw [Int.toNat_natCast, byteAt_get hc, show ((c.toNat : Int) == 34) = (c == 34) from u8_eq (n := 34) (by decide)]
    cases h34 : c == 34 with
    | true =>
      rw [if_pos h34] at he
      subst he
      (first | refine wX ?_ | exact wZ)
      rw [show (i : Int) + 1 = ((s.length - (s.drop (i + 1)).length : Nat) : Int) by rw [List.length_drop]; omega]
      exact fin_p (SlAt (at0 ob) acc.length (u8s acc)) ⟨ob, cap, rfl, hob, hac, fun w hw => hw⟩ fun w hw => by have := hw.2.1; rwa [Nat.mul_one] at this
    | false =>
      rw [if_neg (by rw [h34]; simp)] at he
      (first | refine wX ?_ | exact wZ)
      rw [Int.toNat_natCast, byteAt_get hc, show ((c.toNat : Int) == 92) = (c == 92) from u8_eq (n := 92) (by decide)]
      cases h92 : c == 92 with
      | false =>
        have he2 : quo (s.drop (i + 1)) (acc ++ [c]) = q := by rw [← he, if_neg (by rw [h92]; simp)]
        (first | refine wX ?_ | exact wZ)
        rw [Int.toNat_natCast, byteAt_get hc]
        -- c: the byte, i + 1: the next place
        (first | refine wX ?_ | exact wZ)
        try refine Nd.mk ⟨Nat.le_refl 1, rfl, rfl⟩ ?_
        (conv => whnf)
        refine AppN.grow 1 (u8s acc) [.int .u8 ((c).toNat : Int)] rfl rfl ⟨Nat.le_refl 1, ⟨by show (acc.length + 1) * 1 ≤ _; omega, by show acc.length + 1 < _; omega⟩, Nat.one_ne_zero⟩ fun b1 c1 h11 h12 => ?_
        (first | refine wX ?_ | exact wZ)
        have hln : (acc ++ [c]).length = acc.length + 1 := by simp
        refine ⟨⟨i + 1, acc ++ [c], some b1, c1⟩, ⟨by omega, he2, by rw [hln]; omega, (fun h => by cases h), by rw [hln]; omega⟩, by show s.length - (i + 1) < s.length - i; omega, ?_, ⟨wkE_refl _, .inl ⟨rfl, rfl, u8s_snoc _ _, rfl, hln.symm, rfl⟩, wkH_nil _⟩⟩
        (repeat' (first | exact trivial | refine And.intro (by with_reducible rfl) ?_ | (with_reducible exact wkC_refl _) | (with_reducible exact wkCs_refl _) | refine And.intro ?_ ?_))
        all_goals first | rfl | exact av_int (by omega) | exact av_int (by rw [wrap_i64 (by omega)]; omega) | (rw [hln]; rfl)
      | true =>
        have hi1 : IntKind.i64.wrap ((i : Int) + 1) = ((i + 1 : Nat) : Int) := by rw [wrap_i64 (by omega)]; omega
        (first | refine wX ?_ | exact wZ)
        rw [hz, hi1]
        refine brd_dec (fun h2 => ?_) (fun h2 => ?_)
        · obtain ⟨d, hd⟩ : ∃ d, s[i + 1]? = some d := ⟨_, List.getElem?_eq_getElem (by omega)⟩
          have hdl := d.toNat_lt
          have hdd := drop_at hd
          rw [hh, hd, show (s.drop (i + 1)).headD 0 = d by rw [hdd]; rfl, show (s.drop (i + 1)).drop 1 = s.drop (i + 2) by rw [List.drop_drop]] at he
          (first | refine wX ?_ | exact wZ)
          try rw [hi1]
          rw [Int.toNat_natCast, byteAt_get hd, show ((d.toNat : Int) == 34) = (d == 34) from u8_eq (n := 34) (by decide)]
          cases d34 : d == 34 with
          | true =>
            have he2 : quo (s.drop (i + 2)) (acc ++ [d]) = q := by
              rw [← he, if_pos (by rw [h92, eq_of_beq d34]; rfl)]
            (first | refine wX ?_ | exact wZ)
            rw [show ((i : Int) + 1).toNat = i + 1 by omega, byteAt_get hd]
            -- d: the byte, i + 2: the next place
            (first | refine wX ?_ | exact wZ)
            try refine Nd.mk ⟨Nat.le_refl 1, rfl, rfl⟩ ?_
            (conv => whnf)
            refine AppN.grow 1 (u8s acc) [.int .u8 ((d).toNat : Int)] rfl rfl ⟨Nat.le_refl 1, ⟨by show (acc.length + 1) * 1 ≤ _; omega, by show acc.length + 1 < _; omega⟩, Nat.one_ne_zero⟩ fun b1 c1 h11 h12 => ?_
            (first | refine wX ?_ | exact wZ)
            have hln : (acc ++ [d]).length = acc.length + 1 := by simp
            refine ⟨⟨i + 2, acc ++ [d], some b1, c1⟩, ⟨by omega, he2, by rw [hln]; omega, (fun h => by cases h), by rw [hln]; omega⟩, by show s.length - (i + 2) < s.length - i; omega, ?_, ⟨wkE_refl _, .inl ⟨rfl, rfl, u8s_snoc _ _, rfl, hln.symm, rfl⟩, wkH_nil _⟩⟩
            (repeat' (first | exact trivial | refine And.intro (by with_reducible rfl) ?_ | (with_reducible exact wkC_refl _) | (with_reducible exact wkCs_refl _) | refine And.intro ?_ ?_))
            all_goals first | rfl | exact av_int (by omega) | exact av_int (by rw [wrap_i64 (by omega)]; omega) | (rw [hln]; rfl)
          | false =>
            (first | refine wX ?_ | exact wZ)
            try rw [hi1]
            rw [Int.toNat_natCast, byteAt_get hd, show ((d.toNat : Int) == 92) = (d == 92) from u8_eq (n := 92) (by decide)]
            cases d92 : d == 92 with
            | true =>
              have he2 : quo (s.drop (i + 2)) (acc ++ [d]) = q := by
                rw [← he, if_pos (by rw [h92, eq_of_beq d92]; rfl)]
              (first | refine wX ?_ | exact wZ)
              rw [show ((i : Int) + 1).toNat = i + 1 by omega, byteAt_get hd]
              -- d: the byte, i + 2: the next place
              (first | refine wX ?_ | exact wZ)
              try refine Nd.mk ⟨Nat.le_refl 1, rfl, rfl⟩ ?_
              (conv => whnf)
              refine AppN.grow 1 (u8s acc) [.int .u8 ((d).toNat : Int)] rfl rfl ⟨Nat.le_refl 1, ⟨by show (acc.length + 1) * 1 ≤ _; omega, by show acc.length + 1 < _; omega⟩, Nat.one_ne_zero⟩ fun b1 c1 h11 h12 => ?_
              (first | refine wX ?_ | exact wZ)
              have hln : (acc ++ [d]).length = acc.length + 1 := by simp
              refine ⟨⟨i + 2, acc ++ [d], some b1, c1⟩, ⟨by omega, he2, by rw [hln]; omega, (fun h => by cases h), by rw [hln]; omega⟩, by show s.length - (i + 2) < s.length - i; omega, ?_, ⟨wkE_refl _, .inl ⟨rfl, rfl, u8s_snoc _ _, rfl, hln.symm, rfl⟩, wkH_nil _⟩⟩
              (repeat' (first | exact trivial | refine And.intro (by with_reducible rfl) ?_ | (with_reducible exact wkC_refl _) | (with_reducible exact wkCs_refl _) | refine And.intro ?_ ?_))
              all_goals first | rfl | exact av_int (by omega) | exact av_int (by rw [wrap_i64 (by omega)]; omega) | (rw [hln]; rfl)
            | false =>
              have he2 : quo (s.drop (i + 1)) (acc ++ [c]) = q := by
                rw [← he, if_neg ?_]
                simp only [Bool.and_eq_true, Bool.or_eq_true, beq_iff_eq, Option.some.injEq, not_and, not_or]
                intro _
                exact ⟨by simpa using d34, by simpa using d92⟩
              (first | refine wX ?_ | exact wZ)
              rw [Int.toNat_natCast, byteAt_get hc]
              -- c: the byte, i + 1: the next place
              (first | refine wX ?_ | exact wZ)
              try refine Nd.mk ⟨Nat.le_refl 1, rfl, rfl⟩ ?_
              (conv => whnf)
              refine AppN.grow 1 (u8s acc) [.int .u8 ((c).toNat : Int)] rfl rfl ⟨Nat.le_refl 1, ⟨by show (acc.length + 1) * 1 ≤ _; omega, by show acc.length + 1 < _; omega⟩, Nat.one_ne_zero⟩ fun b1 c1 h11 h12 => ?_
              (first | refine wX ?_ | exact wZ)
              have hln : (acc ++ [c]).length = acc.length + 1 := by simp
              refine ⟨⟨i + 1, acc ++ [c], some b1, c1⟩, ⟨by omega, he2, by rw [hln]; omega, (fun h => by cases h), by rw [hln]; omega⟩, by show s.length - (i + 1) < s.length - i; omega, ?_, ⟨wkE_refl _, .inl ⟨rfl, rfl, u8s_snoc _ _, rfl, hln.symm, rfl⟩, wkH_nil _⟩⟩
              (repeat' (first | exact trivial | refine And.intro (by with_reducible rfl) ?_ | (with_reducible exact wkC_refl _) | (with_reducible exact wkCs_refl _) | refine And.intro ?_ ?_))
              all_goals first | rfl | exact av_int (by omega) | exact av_int (by rw [wrap_i64 (by omega)]; omega) | (rw [hln]; rfl)
        · have he2 : quo (s.drop (i + 1)) (acc ++ [c]) = q := by
            rw [← he, if_neg ?_]
            rw [hh, List.getElem?_eq_none (by omega)]
            simp
          (first | refine wX ?_ | exact wZ)
          rw [Int.toNat_natCast, byteAt_get hc]
          -- c: the byte, i + 1: the next place
          (first | refine wX ?_ | exact wZ)
          try refine Nd.mk ⟨Nat.le_refl 1, rfl, rfl⟩ ?_
          (conv => whnf)
          refine AppN.grow 1 (u8s acc) [.int .u8 ((c).toNat : Int)] rfl rfl ⟨Nat.le_refl 1, ⟨by show (acc.length + 1) * 1 ≤ _; omega, by show acc.length + 1 < _; omega⟩, Nat.one_ne_zero⟩ fun b1 c1 h11 h12 => ?_
          (first | refine wX ?_ | exact wZ)
          have hln : (acc ++ [c]).length = acc.length + 1 := by simp
          refine ⟨⟨i + 1, acc ++ [c], some b1, c1⟩, ⟨by omega, he2, by rw [hln]; omega, (fun h => by cases h), by rw [hln]; omega⟩, by show s.length - (i + 1) < s.length - i; omega, ?_, ⟨wkE_refl _, .inl ⟨rfl, rfl, u8s_snoc _ _, rfl, hln.symm, rfl⟩, wkH_nil _⟩⟩
          (repeat' (first | exact trivial | refine And.intro (by with_reducible rfl) ?_ | (with_reducible exact wkC_refl _) | (with_reducible exact wkCs_refl _) | refine And.intro ?_ ?_))
          all_goals first | rfl | exact av_int (by omega) | exact av_int (by rw [wrap_i64 (by omega)]; omega) | (rw [hln]; rfl)
  · have hin : i = s.length := by omega
    subst hin
    rw [List.drop_length, quo_nil] at he
    subst he
    (first | refine wX ?_ | exact wZ)
    exact fin_v rfl
end Go.Proofs.YteljlkkppaobeaaGreatDoor
