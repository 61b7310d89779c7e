/-
  PackJoinsCardSaid is proved: of every two lists of picks PackJoins returns true and leaves its arguments as they were; the listed tables are tied to the program's text.
-/
import Derived.Test.YtjkchonpnocffaaDoorCards
import Derived.Test.YtjkchonpnocffaaDoorTie
import Derived.Test.YtjkchonpnocffaaDoorMj6
/-
  Contract: PackJoins (law).
-/
namespace Go.Proofs.YtjkchonpnocffaaDoor
open Go.AX Go.RowKit Go.Pack
set_option maxRecDepth 20000

theorem itemsC_one (l : List Pack.Item) : ∀ u ∈ itemsC l, oneV u = true := fun u hu => by
  obtain ⟨x, _, hx⟩ := List.mem_flatMap.1 hu
  simp only [itemC, List.mem_cons, List.not_mem_nil, or_false] at hx
  rcases hx with rfl | rfl | rfl <;> rfl
theorem itemsC_pre {l : List Pack.Item} {n j : Nat} {v : Value} (h : (itemsC (l.take n))[j]? = some v) : (itemsC l)[j]? = some v := by
  have e : itemsC l = itemsC (l.take n) ++ itemsC (l.drop n) := by
    unfold itemsC
    rw [← List.flatMap_append, List.take_append_drop]
  rw [e, List.getElem?_append_left (List.getElem?_eq_some_iff.1 h).1, h]
theorem packs_two (form : List UInt8) (items : List Pack.Item) : ∃ (p : List UInt8) (e u : Int), packV (packS form items) = .tuple #[.string (bs p), .int .i64 e] ∧ usedV (packS form items) = .tuple #[.int .i64 u, .int .i64 e] ∧ (e = 0 → ∃ n : Nat, packS form items = .ok (p, n) ∧ u = (n : Int)) := by
  cases hp : packS form items with
  | error e => exact ⟨[], e, 0, rfl, rfl, fun h => absurd h (packS_err hp)⟩
  | ok r =>
    obtain ⟨l, u⟩ := r
    exact ⟨l, 0, u, rfl, rfl, fun _ => ⟨u, rfl, rfl⟩⟩
theorem packS_form {i : Nat} {form : List UInt8} {ds : List Dir} (h : FormOk i form ds) (hi : i ≤ 20) (items : List Pack.Item) : packS form items = runS items ds [] 0 := by
  unfold packS forms
  rw [h.dirs]
  simp only [show ds.length ≤ 50 by rw [h.len]; omega, if_true]
theorem PackJoins_c (ia ib : Option Addr) (l k : List PickV) (ca cb : Nat) (ha : l ≠ [] → ia.isSome = true) (hb : k ≠ [] → ib.isSome = true)
    (hr : ∀ p ∈ l, -9223372036854775808 ≤ p.int ∧ p.int < 9223372036854775808) (hr2 : ∀ p ∈ k, -9223372036854775808 ≤ p.int ∧ p.int < 9223372036854775808) :
    ∀ H, (∀ w, Facts H w → UtfF w ∧ PicksF ia l w ∧ PicksF ib k w) → SpecH Tryd.prog 5 (pvs [.slice ia l.length ca, .slice ib k.length cb]) H (Ret (.bool true) H) := by
  refine factC hm Tryd.func5 (by kernel_rfl) rfl rfl ?_
  (first | refine wX ?_ | exact wZ)
  refine SpecF.call (formed_c ia l ca ha hr) (fun w hw => hw.1.2.1) fun v G hR => ?_
  obtain ⟨a, ds, n, x, ob, c, rfl, hn20, hnl, hfo, hx60, hxo, hob, hxc, hG⟩ := hR
  (first | refine wX ?_ | exact wZ)
  refine SpecF.call (formed_c ib k cb hb hr2) (fun w hw => hw.1.2.2) fun v2 G2 hR2 => ?_
  obtain ⟨b, ds2, n2, y, ob2, c2, rfl, hn20', hnl2, hfo2, hy60, hyo, hob2, hyc, hG2⟩ := hR2
  have hsa := hfo.size
  have hsb := hfo2.size
  have hza := bs_size (a ++ b)
  (first | refine wX ?_ | exact wZ)
  refine loopS Nat (fun i => i ≤ (a ++ b).length ∧ pure2 ((a ++ b).take i) = true) (fun i => mkS Tryd.f5.ntmps 0 [(4, .c (.v (.bool false))), (5, .c (.v (.string (bs a)))), (6, .c (.v (.slice (at0 ob) x.length c))), (7, .c (.v (.string (bs b)))), (8, .c (.v (.slice (at0 ob2) y.length c2))), (9, .c (.v (.int .i64 (i : Int))))]) (fun i => (a ++ b).length - i) rfl (fun _ => rfl) 0 ⟨Nat.zero_le _, rfl⟩ ?_ ?_
  · (repeat' (first | exact trivial | refine And.intro (by with_reducible rfl) ?_ | (with_reducible exact wkC_refl _) | (with_reducible exact wkCs_refl _) | refine And.intro ?_ ?_))
    all_goals rfl
  intro i ⟨hi, hpu⟩
  have hab : (a ++ b).length ≤ 200 := by rw [List.length_append]; omega
  have hsz : (bs a).size + (bs b).size < 9223372036854775808 := by rw [bs_size, bs_size]; omega
  (first | refine wX ?_ | exact wZ)
  rw [bs_app, hza]
  refine brd_dec (fun h1 => ?_) (fun h1 => ?_)
  · obtain ⟨e, he⟩ : ∃ e, (a ++ b)[i]? = some e := ⟨_, List.getElem?_eq_getElem (by omega)⟩
    have h64 : ((e.toNat : Int) == 64) = (e == 64) := u8_eq (n := 64) (by decide)
    have h42 : ((e.toNat : Int) == 42) = (e == 42) := u8_eq (n := 42) (by decide)
    (first | refine wX ?_ | exact wZ)
    rw [bs_app, hza]
    refine Nd.mk ⟨by omega, h1⟩ ?_
    (first | refine wX ?_ | exact wZ)
    rw [Int.toNat_natCast, byteAt_get he, h64]
    cases e64 : e == 64 with
    | true =>
      (first | refine wX ?_ | exact wZ)
      refine call1 (sane_c _ (fun w hw => hw.1.1)) ?_
      (first | refine wX ?_ | exact wZ)
    | false =>
      (first | refine wX ?_ | exact wZ)
      rw [bs_app, hza]
      refine Nd.mk ⟨by omega, h1⟩ ?_
      (first | refine wX ?_ | exact wZ)
      rw [Int.toNat_natCast, byteAt_get he, h42]
      cases e42 : e == 42 with
      | true =>
        (first | refine wX ?_ | exact wZ)
        refine call1 (sane_c _ (fun w hw => hw.1.1)) ?_
        (first | refine wX ?_ | exact wZ)
      | false =>
        (first | refine wX ?_ | exact wZ)
        refine ⟨i + 1, ⟨by omega, ?_⟩, by omega, ?_, by (repeat' (first | exact trivial | exact wkE_refl _ | refine And.intro ?_ ?_))⟩
        · rw [List.take_add_one, he]
          unfold pure2 at hpu ⊢
          rw [List.all_append, hpu]
          simp [bne, e64, e42]
        · (repeat' (first | exact trivial | refine And.intro (by with_reducible rfl) ?_ | (with_reducible exact wkC_refl _) | (with_reducible exact wkCs_refl _) | refine And.intro ?_ ?_))
          all_goals first | rfl | exact av_int (by rw [wrap_i64 (by omega)]; omega)
  · have hie : i = (a ++ b).length := by omega
    subst hie
    rw [List.take_length] at hpu
    have hpa : pure2 a = true ∧ pure2 b = true := by
      unfold pure2 at hpu ⊢
      rw [List.all_append, Bool.and_eq_true] at hpu
      exact hpu
    have hxa : x ≠ [] → (at0 ob).isSome = true := fun h => by
      cases ob with
      | none => exact absurd (hob rfl) h
      | some g => rfl
    have hya : y ≠ [] → (at0 ob2).isSome = true := fun h => by
      cases ob2 with
      | none => exact absurd (hob2 rfl) h
      | some g => rfl
    have hx2 : ∀ z ∈ x, z.text.length ≤ 140737488351232 ∧ -9223372036854775808 ≤ z.int ∧ z.int < 9223372036854775808 := fun z hz => ⟨Nat.le_trans (hxo z hz).1 (by decide), (hxo z hz).2⟩
    have hy2 : ∀ z ∈ y, z.text.length ≤ 140737488351232 ∧ -9223372036854775808 ≤ z.int ∧ z.int < 9223372036854775808 := fun z hz => ⟨Nat.le_trans (hyo z hz).1 (by decide), (hyo z hz).2⟩
    (first | refine wX ?_ | exact wZ)
    refine call1 (Pack_c a (at0 ob) x c (by omega) hxa (by omega) hx2 _ (fun w hw => hG w hw.2.1)) ?_
    obtain ⟨s, e, u, h1, h2, h3⟩ := packs_two a x
    obtain ⟨s2, e2, u2, k1, k2, k3⟩ := packs_two b y
    rw [h1]
    (first | refine wX ?_ | exact wZ)
    refine call1 (Pack_c b (at0 ob2) y c2 (by omega) hya (by omega) hy2 _ (fun w hw => hG2 w hw.2.2.1)) ?_
    rw [k1]
    (first | refine wX ?_ | exact wZ)
    refine call1 (Used_c a (at0 ob) x c (by omega) hxa (by omega) hx2 _ (fun w hw => hG w hw.2.1)) ?_
    rw [h2]
    (first | refine wX ?_ | exact wZ)
    refine brd_ne (fun h0 => ?_) (fun h0 => ?_)
    · (first | refine wX ?_ | exact wZ)
      refine call1 (sane_c _ (fun w hw => hw.1.1)) ?_
      (first | refine wX ?_ | exact wZ)
    (first | refine wX ?_ | exact wZ)
    refine brd_ne (fun h5 => ?_) (fun h5 => ?_)
    · (first | refine wX ?_ | exact wZ)
      refine call1 (sane_c _ (fun w hw => hw.1.1)) ?_
      (first | refine wX ?_ | exact wZ)
    (first | refine wX ?_ | exact wZ)
    refine brd_ne (fun h6 => ?_) (fun h6 => ?_)
    · (first | refine wX ?_ | exact wZ)
      refine call1 (sane_c _ (fun w hw => hw.1.1)) ?_
      (first | refine wX ?_ | exact wZ)
    obtain ⟨n0, h7, rfl⟩ := h3 (by first | exact h0 | exact Decidable.of_not_not h0)
    obtain ⟨m0, k7, rfl⟩ := k3 (by first | exact h5 | exact Decidable.of_not_not h5)
    clear h1 h2 h3 k1 k2 k3
    have hs1 : (bs a).size + (bs [32]).size < 9223372036854775808 := by rw [bs_size, bs_size]; show a.length + 1 < _; omega
    have hs2 : (bs (a ++ [32])).size + (bs b).size < 9223372036854775808 := by rw [bs_size, bs_size, List.length_append]; show a.length + 1 + b.length < _; omega
    ((conv => whnf); (repeat ((first | refine BoxN.own ?_ | refine VrN.norm (wrap_i64 (by omega)) ?_ | refine VrN.keep ?_ | refine DrawN.calm (by decide +kernel) ?_ | refine Nd.mk (by decide +kernel) ?_ | refine Nd.mk (by omega) ?_ | (refine Nd.mk ?_ ?_; focus ((repeat' (first | exact trivial | exact wkE_refl _ | refine And.intro ?_ ?_)); done)) | refine RdN.intro _ rfl (by rfl) ?_); (conv => whnf))))
    refine Nd.mk hs1 ?_
    rw [show (⟨#[32]⟩ : ByteArray) = bs [32] from rfl, bs_app]
    ((conv => whnf); (repeat ((first | refine BoxN.own ?_ | refine VrN.norm (wrap_i64 (by omega)) ?_ | refine VrN.keep ?_ | refine DrawN.calm (by decide +kernel) ?_ | refine Nd.mk (by decide +kernel) ?_ | refine Nd.mk (by omega) ?_ | (refine Nd.mk ?_ ?_; focus ((repeat' (first | exact trivial | exact wkE_refl _ | refine And.intro ?_ ?_)); done)) | refine RdN.intro _ rfl (by rfl) ?_); (conv => whnf))))
    rw [bs_app]
    refine RwN.known [] rfl fun rb => ?_
    rw [packS_form hfo hn20] at h7
    rw [packS_form hfo2 hn20'] at k7
    have hpl := hfo.pl hpa.1
    have hpl2 := hfo2.pl hpa.2
    have hn0 := (runS_used ds hpl h7).2.2 (Nat.zero_le _)
    have hmn : minI (n0 : Int) (x.length : Int) = (n0 : Int) := by unfold minI; split <;> omega
    ((conv => whnf); (repeat ((first | refine BoxN.own ?_ | refine VrN.norm (wrap_i64 (by omega)) ?_ | refine VrN.keep ?_ | refine DrawN.calm (by decide +kernel) ?_ | refine Nd.mk (by decide +kernel) ?_ | refine Nd.mk (by omega) ?_ | (refine Nd.mk ?_ ?_; focus ((repeat' (first | exact trivial | exact wkE_refl _ | refine And.intro ?_ ?_)); done)) | refine RdN.intro _ rfl (by rfl) ?_); (conv => whnf))))
    refine ReadW.slc_h (ob := ob) (j := (n0 : Int)) rfl (by kernel_rfl) rfl (av_int hmn) ⟨by omega, by omega⟩ ?_
    ((conv => whnf); (repeat ((first | refine BoxN.own ?_ | refine VrN.norm (wrap_i64 (by omega)) ?_ | refine VrN.keep ?_ | refine DrawN.calm (by decide +kernel) ?_ | refine Nd.mk (by decide +kernel) ?_ | refine Nd.mk (by omega) ?_ | (refine Nd.mk ?_ ?_; focus ((repeat' (first | exact trivial | exact wkE_refl _ | refine And.intro ?_ ?_)); done)) | refine RdN.intro _ rfl (by rfl) ?_); (conv => whnf))))
    rw [Int.toNat_natCast]
    have hab2 : (a ++ [32] ++ b).length ≤ 100000 := by simp; omega
    have hIO : ∀ z ∈ x.take n0 ++ y, z.text.length ≤ 140737488351232 ∧ -9223372036854775808 ≤ z.int ∧ z.int < 9223372036854775808 := fun z hz => by
      rcases List.mem_append.1 hz with hz | hz
      · exact hx2 z (List.mem_of_mem_take hz)
      · exact hy2 z hz
    have hxt : (x.take n0).length = n0 := by rw [List.length_take]; omega
    have hs3 := runS_144 ds (fun d hd => ⟨hpl d hd, hfo.cnt d hd⟩) h7
    have hs4 := runS_144 ds2 (fun d hd => ⟨hpl2 d hd, hfo2.cnt d hd⟩) k7
    rw [hfo.len] at hs3
    rw [hfo2.len] at hs4
    simp only [List.length_nil] at hs3 hs4
    have key : packS (a ++ [32] ++ b) (x.take n0 ++ y) = .ok (s ++ s2, n0 + m0) := by
      rw [List.append_assoc]
      exact pack_join hfo.dirs hfo2.dirs hpl hpl2 (by rw [hfo.len, hfo2.len]; omega) h7 k7 (by omega)
    have hsS : (bs s).size + (bs s2).size < 9223372036854775808 := by rw [bs_size, bs_size]; omega
    have cx := itemsC_len (x.take n0)
    have cy := itemsC_len y
    rw [hxt] at cx
    generalize hxn : x.take n0 = xt at *
    have hP : ∀ (H : List Ent) (A : Option Addr) (n cap : Nat), A.isSome = true → n = (xt ++ y).length → (∀ w, Facts H w → ItemsF A (xt ++ y) w) → SpecH Tryd.prog 17 (pvs [.string (bs (a ++ [32] ++ b)), .slice A n cap]) H (Ret (.tuple #[.string (bs (s ++ s2)), .int .i64 0]) H) := fun H A n cap hA hn hF => by
      subst hn
      have := Pack_c (a ++ [32] ++ b) A (xt ++ y) cap hab2 (fun _ => hA) (by rw [List.length_append]; omega) hIO H hF
      rw [key] at this
      exact this
    have hF : ∀ (n : Nat) (xs : List Value) (A : Option Addr) (w : World), SlAt A (n * 3) xs w → n = (xt ++ y).length → xs = itemsC (xt ++ y) → ItemsF A (xt ++ y) w := fun n xs A w h h1 h2 => by
      subst h1 h2
      exact h
    refine brd_intro (fun h => ?_) (fun h => ?_)
    · have hn00 : n0 = 0 := Nat.eq_of_beq_eq_true h
      have hxt0 : xt = [] := List.eq_nil_of_length_eq_zero (by omega)
      ((conv => whnf); (repeat ((first | refine BoxN.own ?_ | refine VrN.norm (wrap_i64 (by omega)) ?_ | refine VrN.keep ?_ | refine DrawN.calm (by decide +kernel) ?_ | refine Nd.mk (by decide +kernel) ?_ | refine Nd.mk (by omega) ?_ | (refine Nd.mk ?_ ?_; focus ((repeat' (first | exact trivial | exact wkE_refl _ | refine And.intro ?_ ?_)); done)) | refine RdN.intro _ rfl (by rfl) ?_); (conv => whnf))))
      refine brd_intro (fun h => ?_) (fun h => ?_)
      · have hy0 : y = [] := List.eq_nil_of_length_eq_zero (Nat.eq_of_beq_eq_true h)
        ((conv => whnf); (repeat ((first | refine BoxN.own ?_ | refine VrN.norm (wrap_i64 (by omega)) ?_ | refine VrN.keep ?_ | refine DrawN.calm (by decide +kernel) ?_ | refine Nd.mk (by decide +kernel) ?_ | refine Nd.mk (by omega) ?_ | (refine Nd.mk ?_ ?_; focus ((repeat' (first | exact trivial | exact wkE_refl _ | refine And.intro ?_ ?_)); done)) | refine RdN.intro _ rfl (by rfl) ?_); (conv => whnf))))
        rw [hxt0, hy0] at hP hF
        -- some ⟨rb, 0, none⟩: the address
        refine call1 (hP _ (some ⟨rb, 0, none⟩) _ _ rfl (by first | rfl | (simp; done) | (simp; omega)) ?_) ?_
        · intro w hw
          exact hF _ _ _ w hw.2.2.2.1 (by first | rfl | (simp; done) | (simp; omega)) (by simp [itemsC])
        (first | refine wX ?_ | exact wZ)
        rw [bs_app]
        refine brd_intro (fun h => ?_) (fun h => ?_)
        · (first | refine wX ?_ | exact wZ)
          refine call1 (sane_c _ (fun w hw => hw.1.1)) ?_
          (first | refine wX ?_ | exact wZ)
        · exact absurd h (by simp)
      · ((conv => whnf); (repeat ((first | refine BoxN.own ?_ | refine VrN.norm (wrap_i64 (by omega)) ?_ | refine VrN.keep ?_ | refine DrawN.calm (by decide +kernel) ?_ | refine Nd.mk (by decide +kernel) ?_ | refine Nd.mk (by omega) ?_ | (refine Nd.mk ?_ ?_; focus ((repeat' (first | exact trivial | exact wkE_refl _ | refine And.intro ?_ ?_)); done)) | refine RdN.intro _ rfl (by rfl) ?_); (conv => whnf))))
        -- y: the items, y.length: their number, ob2: the block, hya: its being there, cy: their cells, hG2 w hw.2.2.1: the fact
        have hne : y ≠ [] := fun hn => by
          have h0 : y.length = 0 := by rw [hn]; rfl
          rw [show y.length = 0 by omega] at h
          cases h
        have hpos := List.length_pos_iff.2 hne
        refine Nd.mk (hya hne) ?_
        (conv => whnf)
        refine ApN.intro (itemsC y) (by show _ = _ * 3; omega) (itemsC_one _) (fun w hw j v hv => (show SlAt (at0 ob2) _ (itemsC _) w from hG2 w hw.2.2.1).cell (by first | exact hv | (rw [← hxn] at hv; exact itemsC_pre hv))) ?_
        (conv => whnf)
        refine AppN.grow 3 _ (itemsC y) rfl (plains_vs _) ⟨by omega, ⟨by show (_ + _) * 32 ≤ _; omega, by omega⟩, by show 3 ≠ 0; omega⟩ fun pb pc h31 h32 => ?_
        ((conv => whnf); (repeat ((first | refine BoxN.own ?_ | refine VrN.norm (wrap_i64 (by omega)) ?_ | refine VrN.keep ?_ | refine DrawN.calm (by decide +kernel) ?_ | refine Nd.mk (by decide +kernel) ?_ | refine Nd.mk (by omega) ?_ | (refine Nd.mk ?_ ?_; focus ((repeat' (first | exact trivial | exact wkE_refl _ | refine And.intro ?_ ?_)); done)) | refine RdN.intro _ rfl (by rfl) ?_); (conv => whnf))))
        rw [hxt0] at hP hF
        -- some ⟨pb, 0, none⟩: the address
        refine call1 (hP _ (some ⟨pb, 0, none⟩) _ _ rfl (by first | rfl | (simp; done) | (simp; omega)) ?_) ?_
        · intro w hw
          exact hF _ _ _ w hw.2.2.2.1 (by first | rfl | (simp; done) | (simp; omega)) (by simp [itemsC])
        (first | refine wX ?_ | exact wZ)
        rw [bs_app]
        refine brd_intro (fun h => ?_) (fun h => ?_)
        · (first | refine wX ?_ | exact wZ)
          refine call1 (sane_c _ (fun w hw => hw.1.1)) ?_
          (first | refine wX ?_ | exact wZ)
        · exact absurd h (by simp)
    · -- xt: the items, n0: their number, ob: the block, (fun hh => hxa fun h0 => hh (by rw [← hxn, h0]; simp)): its being there, cx: their cells, hG w hw.2.1: the fact
      have hne : xt ≠ [] := fun hn => by
        have h0 : xt.length = 0 := by rw [hn]; rfl
        rw [show n0 = 0 by omega] at h
        cases h
      have hpos := List.length_pos_iff.2 hne
      refine Nd.mk ((fun hh => hxa fun h0 => hh (by rw [← hxn, h0]; simp)) hne) ?_
      (conv => whnf)
      refine ApN.intro (itemsC xt) (by show _ = _ * 3; omega) (itemsC_one _) (fun w hw j v hv => (show SlAt (at0 ob) _ (itemsC _) w from hG w hw.2.1).cell (by first | exact hv | (rw [← hxn] at hv; exact itemsC_pre hv))) ?_
      (conv => whnf)
      refine AppN.grow 3 _ (itemsC xt) rfl (plains_vs _) ⟨by omega, ⟨by show (_ + _) * 32 ≤ _; omega, by omega⟩, by show 3 ≠ 0; omega⟩ fun pb pc h31 h32 => ?_
      ((conv => whnf); (repeat ((first | refine BoxN.own ?_ | refine VrN.norm (wrap_i64 (by omega)) ?_ | refine VrN.keep ?_ | refine DrawN.calm (by decide +kernel) ?_ | refine Nd.mk (by decide +kernel) ?_ | refine Nd.mk (by omega) ?_ | (refine Nd.mk ?_ ?_; focus ((repeat' (first | exact trivial | exact wkE_refl _ | refine And.intro ?_ ?_)); done)) | refine RdN.intro _ rfl (by rfl) ?_); (conv => whnf))))
      refine brd_intro (fun h => ?_) (fun h => ?_)
      · have hy0 : y = [] := List.eq_nil_of_length_eq_zero (Nat.eq_of_beq_eq_true h)
        ((conv => whnf); (repeat ((first | refine BoxN.own ?_ | refine VrN.norm (wrap_i64 (by omega)) ?_ | refine VrN.keep ?_ | refine DrawN.calm (by decide +kernel) ?_ | refine Nd.mk (by decide +kernel) ?_ | refine Nd.mk (by omega) ?_ | (refine Nd.mk ?_ ?_; focus ((repeat' (first | exact trivial | exact wkE_refl _ | refine And.intro ?_ ?_)); done)) | refine RdN.intro _ rfl (by rfl) ?_); (conv => whnf))))
        rw [hy0] at hP hF
        -- some ⟨pb, 0, none⟩: the address
        refine call1 (hP _ (some ⟨pb, 0, none⟩) _ _ rfl (by first | rfl | (simp; done) | (simp; omega)) ?_) ?_
        · intro w hw
          exact hF _ _ _ w hw.2.2.2.1 (by first | rfl | (simp; done) | (simp; omega)) (by simp [itemsC])
        (first | refine wX ?_ | exact wZ)
        rw [bs_app]
        refine brd_intro (fun h => ?_) (fun h => ?_)
        · (first | refine wX ?_ | exact wZ)
          refine call1 (sane_c _ (fun w hw => hw.1.1)) ?_
          (first | refine wX ?_ | exact wZ)
        · exact absurd h (by simp)
      · ((conv => whnf); (repeat ((first | refine BoxN.own ?_ | refine VrN.norm (wrap_i64 (by omega)) ?_ | refine VrN.keep ?_ | refine DrawN.calm (by decide +kernel) ?_ | refine Nd.mk (by decide +kernel) ?_ | refine Nd.mk (by omega) ?_ | (refine Nd.mk ?_ ?_; focus ((repeat' (first | exact trivial | exact wkE_refl _ | refine And.intro ?_ ?_)); done)) | refine RdN.intro _ rfl (by rfl) ?_); (conv => whnf))))
        -- y: the items, y.length: their number, ob2: the block, hya: its being there, cy: their cells, hG2 w hw.2.2.1: the fact
        have hne : y ≠ [] := fun hn => by
          have h0 : y.length = 0 := by rw [hn]; rfl
          rw [show y.length = 0 by omega] at h
          cases h
        have hpos := List.length_pos_iff.2 hne
        refine Nd.mk (hya hne) ?_
        (conv => whnf)
        refine ApN.intro (itemsC y) (by show _ = _ * 3; omega) (itemsC_one _) (fun w hw j v hv => (show SlAt (at0 ob2) _ (itemsC _) w from hG2 w hw.2.2.1).cell (by first | exact hv | (rw [← hxn] at hv; exact itemsC_pre hv))) ?_
        (conv => whnf)
        refine AppN.grow 3 _ (itemsC y) rfl (plains_vs _) ⟨by omega, ⟨by show (_ + _) * 32 ≤ _; omega, by omega⟩, by show 3 ≠ 0; omega⟩ fun pb pc h31 h32 => ?_
        ((conv => whnf); (repeat ((first | refine BoxN.own ?_ | refine VrN.norm (wrap_i64 (by omega)) ?_ | refine VrN.keep ?_ | refine DrawN.calm (by decide +kernel) ?_ | refine Nd.mk (by decide +kernel) ?_ | refine Nd.mk (by omega) ?_ | (refine Nd.mk ?_ ?_; focus ((repeat' (first | exact trivial | exact wkE_refl _ | refine And.intro ?_ ?_)); done)) | refine RdN.intro _ rfl (by rfl) ?_); (conv => whnf))))
        -- some ⟨pb, 0, none⟩: the address
        refine call1 (hP _ (some ⟨pb, 0, none⟩) _ _ rfl (by first | rfl | (simp; done) | (simp; omega)) ?_) ?_
        · intro w hw
          exact hF _ _ _ w hw.2.2.2.1 (by first | rfl | (simp; done) | (simp; omega)) (by simp [itemsC])
        (first | refine wX ?_ | exact wZ)
        rw [bs_app]
        refine brd_intro (fun h => ?_) (fun h => ?_)
        · (first | refine wX ?_ | exact wZ)
          refine call1 (sane_c _ (fun w hw => hw.1.1)) ?_
          (first | refine wX ?_ | exact wZ)
        · exact absurd h (by simp)
end Go.Proofs.YtjkchonpnocffaaDoor

/-
  AX, twenty-seventh text: arguments that are slices of structs.
-/
namespace Go.AX
open Go.ChangeShapes Go.WideShapes Go.ChangeAt Go.RowKit

theorem choose_list {α : Type} {R : Nat → α → Prop} : ∀ n, (∀ i, i < n → ∃ x, R i x) → ∃ l : List α, l.length = n ∧ ∀ i x, l[i]? = some x → R i x
  | 0, _ => ⟨[], rfl, fun i x h => by simp at h⟩
  | n + 1, h => by
    obtain ⟨l, hl, hR⟩ := choose_list n fun i hi => h i (by omega)
    obtain ⟨x, hx⟩ := h n (by omega)
    refine ⟨l ++ [x], by simp [hl], fun i y hy => ?_⟩
    by_cases hi : i < l.length
    · rw [List.getElem?_append_left hi] at hy
      exact hR i y hy
    · have hlt := (List.getElem?_eq_some_iff.1 hy).1
      simp only [List.length_append, List.length_cons, List.length_nil] at hlt
      have e : i = l.length := by omega
      subst e
      simp at hy
      subst hy
      rw [hl]; exact hx
section
variable {H : Type} {enc : TypeId × Value → H} {P : Program} {w : World}
theorem weights_all {e : TypeId} : ∀ {l : List (DataW H)} {d : DataW H}, d ∈ l → ∀ k ∈ d.weights P e, k ∈ DataW.weightsAll P e l
  | [], _, h, _, _ => by cases h
  | a :: l, d, h, k, hk => by
    rw [DataW.weightsAll, List.mem_append]
    rcases List.mem_cons.1 h with rfl | h
    · exact .inl hk
    · exact .inr (weights_all h k hk)
/-- A slice of structs: g lays one out, Q is what the reading says of it. -/
theorem known_rows {α : Type} {Q : α → Prop} {m : Nat} (g : α → List Value) (hg : ∀ x, (g x).length = m) {t e : TypeId} {v : Value} {d : DataW H} {ps : List MemPlace} {ts : List TypeId} {ds : List (DataW H)} {j : Nat} (ht : P.underlying t = some (.slice e)) (hc : P.cellsOf e = m) (hb : 1 ≤ P.bytesOf e)
    (hread : ∀ n cs (y : DataW H × List MemPlace), DataW.trod enc P w 0 (fun _ => true) true n e cs = some y → (∀ k ∈ y.1.weights P e, k ≤ reachBytes) → ∃ x, Q x ∧ cs = g x)
    (hsz : (DataW.weightsEach P ts ds).all (· ≤ reachBytes) = true) (hj : ts[j]? = some t) (hd : ds[j]? = some d)
    {r : Reach} {b : Nat} (hv : Value.okWide P w r b t v) (h : DataW.Trod enc P w 0 (fun _ => true) true t v d ps) : ∃ (a : Option Addr) (l : List α) (cap : Nat), v = .slice a l.length cap ∧ l.length ≤ 200000000000000 ∧ Imm (fun b => b < w.heap.size) w (SlAt a (l.length * m) (l.flatMap g)) ∧ (a = none → l = []) ∧ ∀ x ∈ l, Q x := by
  obtain ⟨a, n, c, rfl⟩ := okWide_slice ht hv
  obtain ⟨fuel, hf⟩ := h
  rcases DataW.trod_slice ht hf with ⟨h1, h2⟩ | ⟨a, len, cap, elems, rest, n, _, h1, h2, _, _, _, hlen, hel, _⟩
  · refine ⟨none, [], 0, by simpa [Value.cells] using h1, by simp, ?_, fun _ => rfl, by simp⟩
    rw [List.length_nil, Nat.zero_mul]
    exact SlAt.nil.imm
  · simp only [Prod.mk.injEq] at h2
    rw [h2.1] at hd
    have hs := sized_slice hsz hj hd ht
    have hr : reachBytes < 200000000000000 := by decide
    have hb' : len ≤ reachBytes := by
      rw [List.length_map, hlen] at hs
      exact Nat.le_trans (Nat.le_trans (Nat.le_add_right _ _) (Nat.le_mul_of_pos_right _ hb)) hs
    have hall : ∀ k ∈ (DataW.slice (elems.map (·.1)) (rest.map (·.1))).weights P t, k ≤ reachBytes := fun k hk => by
      have := List.all_eq_true.1 hsz _ (DataW.weights_mem_each hj hd k hk)
      simpa using this
    have hx : ∀ i, i < len → ∃ x, Q x ∧ ∀ q, q < m → w.cell? (a.add (i * m + q)) = (g x)[q]? := fun i hi => by
      have hi2 := hel i hi
      rw [hc, List.getElem?_eq_getElem (by omega)] at hi2
      obtain ⟨cs, hcs, hy⟩ := Option.bind_eq_some_iff.1 hi2
      obtain ⟨x, hQ, rfl⟩ := hread n cs _ hy fun k hk => by
        refine hall k ?_
        simp only [DataW.weights, ht, List.mem_cons, List.mem_append]
        exact .inr (.inl (weights_all (List.mem_map.2 ⟨_, List.getElem_mem _, rfl⟩) k hk))
      refine ⟨x, hQ, fun q hq => ?_⟩
      obtain ⟨_, _, hcell⟩ := World.cells?_some hcs
      have := hcell q hq
      rwa [Addr.add_add] at this
    obtain ⟨l, hl, hR⟩ := choose_list len hx
    refine ⟨some a, l, cap, by rw [hl]; simpa [Value.cells] using h1, by omega, ?_, (fun h => by cases h), fun x hx => ?_⟩
    · refine SlAt.imm ⟨flat_len hg l, fun _ => rfl, fun q hq => ?_⟩
      have hm : 0 < m := Nat.pos_of_ne_zero fun e => by rw [e] at hq; simp at hq
      have hq2 : q = q / m * m + q % m := by rw [Nat.mul_comm]; exact (Nat.div_add_mod q m).symm
      have hqi : q / m < l.length := Nat.div_lt_of_lt_mul (by rw [Nat.mul_comm]; exact hq)
      have hqm := Nat.mod_lt q hm
      show w.cell? (a.add q) = _
      rw [hq2, flat_get hg l _ _ hqm, List.getElem?_eq_getElem hqi]
      exact (hR _ _ (List.getElem?_eq_getElem hqi)).2 _ hqm
    · obtain ⟨i, hi⟩ := List.getElem?_of_mem hx
      exact (hR i x hi).1
end
end Go.AX

/-
  A pick as it is read (argument).
-/
namespace Go.Proofs.YtjkchonpnocffaaDoor
open Go.ChangeShapes Go.WideShapes Go.ChangeAt Go.RowKit Go.AX Go.Pack
set_option maxRecDepth 20000
theorem pick_read {H : Type} {enc : TypeId × Value → H} {w : World} : ∀ n cs (y : DataW H × List MemPlace), DataW.trod enc Tryd.prog w 0 (fun _ => true) true n 87 cs = some y → (∀ k ∈ y.1.weights Tryd.prog 87, k ≤ reachBytes) → ∃ x : PickV, (-9223372036854775808 ≤ x.int ∧ x.int < 9223372036854775808) ∧ cs = pickC x := by
  intro n cs y h _
  have cB : Tryd.prog.cellsOf 4 = 1 := by kernel_rfl
  have cI : Tryd.prog.cellsOf 3 = 1 := by kernel_rfl
  have cS : Tryd.prog.cellsOf 9 = 1 := by kernel_rfl
  have cP : Tryd.prog.cellsOf 87 = 5 := by kernel_rfl
  obtain ⟨xs, n', _, hx, hlen, hxl, hf⟩ := DataW.trod_struct Tryd.underlying87 h
  have h0 := hf 0 _ rfl
  have h1 := hf 1 _ rfl
  have h2 := hf 2 _ rfl
  have h3 := hf 3 _ rfl
  have h4 := hf 4 _ rfl
  match xs, hxl with
  | [y0, y1, y2, y3, y4], _ =>
    obtain ⟨k0, e0, _⟩ := DataW.trod_int Tryd.underlying3 h0
    obtain ⟨k1, e1, _⟩ := DataW.trod_int Tryd.underlying3 h1
    obtain ⟨k2, e2, _, hk2⟩ := DataW.trod_int Tryd.underlying3 h2
    obtain ⟨b, e3, _⟩ := DataW.trod_bool Tryd.underlying4 h3
    obtain ⟨s, e4, _⟩ := DataW.trod_string Tryd.underlying9 h4
    rw [cP] at hlen
    match cs, hlen with
    | [c0, c1, c2, c3, c4], _ =>
      have f0 : List.take (Tryd.prog.cellsOf 3) (List.drop 0 [c0, c1, c2, c3, c4]) = [.int .i64 k0] := e0
      have f1 : List.take (Tryd.prog.cellsOf 3) (List.drop 1 [c0, c1, c2, c3, c4]) = [.int .i64 k1] := e1
      have f2 : List.take (Tryd.prog.cellsOf 3) (List.drop 2 [c0, c1, c2, c3, c4]) = [.int .i64 k2] := e2
      have f3 : List.take (Tryd.prog.cellsOf 4) (List.drop 3 [c0, c1, c2, c3, c4]) = [.bool b] := e3
      have f4 : List.take (Tryd.prog.cellsOf 9) (List.drop 4 [c0, c1, c2, c3, c4]) = [.string s] := e4
      clear e0 e1 e2 e3 e4
      rw [cI] at f0 f1 f2
      rw [cB] at f3
      rw [cS] at f4
      simp at f0 f1 f2 f3 f4
      subst f0 f1 f2 f3 f4
      refine ⟨⟨k0, k1, k2, b, s.data.toList⟩, ?_, rfl⟩
      have hw : (decide (IntKind.i64.min ≤ k2) && decide (k2 ≤ IntKind.i64.max)) = true := hk2
      rw [Bool.and_eq_true, decide_eq_true_eq, decide_eq_true_eq] at hw
      have m1 : IntKind.i64.min = -9223372036854775808 := by decide
      have m2 : IntKind.i64.max = 9223372036854775807 := by decide
      rw [m1, m2] at hw
      exact ⟨hw.1, by have := hw.2; show k2 < _; omega⟩
end Go.Proofs.YtjkchonpnocffaaDoor

/-
  PackJoinsCardSaid is proved: of every two lists of picks PackJoins returns true and leaves its arguments as they were; the listed tables are tied to the program's text.
-/
namespace Go.Proofs.YtjkchonpnocffaaDoor
open Go.ChangeShapes Go.WideShapes Go.ChangeAt Go.RowKit Go.AX
set_option maxRecDepth 100000

namespace PackJoins
theorem own : ownKnob Tryd.prog.godebug = none := own0
theorem walk {H : Type} {enc : TypeId × Value → H} (W : World) (base : Nat) (args : Array Value) (ds : List (DataW H)) (p : List MemPlace) (k : Known enc Tryd.prog Tryd.f5 W base args ds p) (_hL : laidMetH Tryd.prog laid3 W) : Walk Tryd.prog 5 args W := by
  obtain ⟨u, v, rfl⟩ := arr2 (trodAll_len k.trod).2
  obtain ⟨d, q, hd, h⟩ := trodAll_get k.trod 0 _ u rfl rfl
  obtain ⟨d2, q2, hd2, h2⟩ := trodAll_get k.trod 1 _ v rfl rfl
  obtain ⟨a, l, cap, rfl, _, hsl, ha, hQ⟩ := known_rows (e := 87) (m := 5) pickC (fun _ => rfl) Tryd.underlying35 (by kernel_rfl) (by decide +kernel) pick_read k.weights rfl hd (k.val 0 _ u rfl rfl) h
  obtain ⟨a2, l2, cap2, rfl, _, hsl2, ha2, hQ2⟩ := known_rows (e := 87) (m := 5) pickC (fun _ => rfl) Tryd.underlying35 (by kernel_rfl) (by decide +kernel) pick_read k.weights rfl hd2 (k.val 1 _ v rfl rfl) h2
  have hia : l ≠ [] → a.isSome = true := fun hn => by
    cases a with
    | none => exact absurd (ha rfl) hn
    | some _ => rfl
  have hib : l2 ≠ [] → a2.isSome = true := fun hn => by
    cases a2 with
    | none => exact absurd (ha2 rfl) hn
    | some _ => rfl
  exact walkH [.fact fun w => UtfF w ∧ PicksF a l w ∧ PicksF a2 l2 w] (fun _ he => ⟨_, List.mem_singleton.1 he, (utf_imm (utf_of k.shaped _hL)).and (hsl.and hsl2)⟩) (PackJoins_c a a2 l l2 cap cap2 hia hib hQ hQ2 _ fun w hw => hw.1)

theorem lifted (os : Os) (started : os.Started) (H : Type) (enc : TypeId × Value → H) :
    ReturnsInHanded {} Tryd.checked os 5 .any (fun w args => (Rows.packJoinsSpec.pre enc Tryd.prog Tryd.f5 [] false w args ∧ laidMetH Tryd.prog laid3 w) ∧ sizedMet enc Tryd.prog Tryd.f5 (OpenSpec.ofChange Rows.packJoinsSpec) false w args) (Rows.packJoinsSpec.post enc Tryd.prog Tryd.f5 false true false false) := by
  refine liftS (C := Tryd.checked) own started (by kernel_rfl) Tryd.func5
    (ChangeSpec.witness_shaped (enc := enc) (C := Tryd.checked) (os := os) (X := fun w _ => laidMetH Tryd.prog laid3 w) false (World.laidAll Tryd.prog os laid3) #[.slice none 0 0, .slice none 0 0] 8 (World.laidAll_os _ _ _) (World.shaped_of_ZipB (by kernel_rfl) (by kernel_rfl)) (by kernel_rfl) (by kernel_rfl) (by kernel_rfl) (door_met os _))
    laidOut rfl (t := _) rfl (by kernel_rfl) (by kernel_rfl) ?_ walk
  intro ds hd
  match ds, hd with
  | [d0, d1], _ => rfl

theorem over : Rows.packJoinsRow.holds Tryd.pinned (OpenSpec.ofChange Rows.packJoinsSpec) :=
  OpenClaim.holds_of_wide 5 Tryd.f5 rfl rfl rfl rfl rfl rfl rfl ⟨rfl, rfl, rfl, rfl, rfl⟩ rfl rfl rfl rfl rfl (by kernel_rfl) Tryd.func5 (by kernel_rfl)
    (of_decide_eq_true (by kernel_rfl)) (by unfold Func.isWrapper; first | (rw [if_pos (by decide +kernel)]; kernel_rfl) | (rw [if_neg (by decide +kernel)]; exact ⟨rfl, rfl⟩))
    (fun os started H enc _ => lifted os started H enc)

theorem proved : Rows.PackJoinsCardSaid :=
  Claim7.holds_tied_plain_at .later [] [.data, .pinned] true (true, "ee40ad3c004e27ba634c39df1e0133c8cbf9a6c49400ae1940cd1f890c212da8") false
    over (fun _ h => by cases h) (by kernel_rfl) (fun _ h => by cases h) packJoins_row_tie rfl ⟨rfl, rfl⟩ (by kernel_rfl) rfl
    (fun f fn hf hfn => by
      obtain rfl : f = 5 := Option.some.inj ((show Tryd.prog.funcNamed "cabochon/cabochonlaw03.PackJoins" = some 5 by kernel_rfl).symm.trans hf) |>.symm
      obtain rfl : fn = Tryd.f5 := (Option.some.inj (Tryd.func5.symm.trans hfn)).symm
      exact ⟨by kernel_rfl, fun j t ht => by
        have hm : t ∈ Tryd.f5.params.toList := by simpa using Array.mem_of_getElem? ht
        have hall : (Tryd.f5.params.toList.all fun u => !Tryd.prog.wantsStandIn u) = true := by kernel_rfl
        exact (show Tryd.prog.wantsStandIn t = false by simpa using List.all_eq_true.1 hall t hm)⟩)
    (by kernel_rfl)
#print axioms proved
end PackJoins
end Go.Proofs.YtjkchonpnocffaaDoor
