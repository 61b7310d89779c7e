/-
  Lemmas (MC3 MP3 MP4 MP5 MP6 MP7 MP8 MC4 MP9 MP10 MC5 MC7 MD1 MD2 MD3 MA1 MP12 MP13 MP11).
-/
import Derived.Test.YtgogonnnojcioaaGreatDoorMch6
set_option linter.unusedVariables false
set_option linter.unusedSimpArgs false
namespace Go.Proofs.YtgogonnnojcioaaGreatDoor
open Go.AX Go.RowKit Go.Core Go.Marshal
set_option maxRecDepth 20000
def bM (u : Bool) : CV := match u with | true => .lp 0 1 | false => .v (.pointer none)
structure MapP where
 ce : Array MapEntry
 cc : Nat
 se : Array MapEntry
 sc : Nat
def wM (gv : Value) (F : World → Prop) (u : Bool) (out : List UInt8) (i : BSt) (mb sb : Nat) (q : MapP) : List Ent :=
 [.blk 69 [.v gv, bM u, .v (.slice (at0 i.ob) out.length i.cap), .v (.map (some mb)), .v (.map (some sb))], .app 5 1 (u8s out) (at0 i.ob) out.length i.cap, .mp mb q.ce q.cc, .mp sb q.se q.sc, .fact F]
theorem wM_ok (gv : Value) (F : World → Prop) (u : Bool) (out : List UInt8) (i : BSt) (mb sb : Nat) (q : MapP) : okH (wM gv F u out i mb sb q).length (wM gv F u out i mb sb q) := by cases u <;> exact okHB_eq rfl
variable (gv : Value) (F : World → Prop) (mb sb : Nat) (q : MapP)
theorem copyCheck_m (u : Bool) (out : List UInt8) (i : BSt) : SpecH Tryz.prog 55 [.c (.lp 0 1)] (wM gv F u out i mb sb q) (RetG (ι := Unit) (fun _ => True) (fun _ => .tuple #[]) fun _ => wM gv F true out i mb sb q) := by
 refine ownC hm Tryz.func55 (by kernel_rfl) rfl rfl (fun _ _ => wM_ok _ _ _ _ _ _ _ _) (fun _ _ => Nat.le_refl _) ?_
 cases u with
 | false =>
  refine wX ?_
  refine ReadW.toUnsafe 67 rfl (by kernel_rfl) (by kernel_rfl) (by kernel_rfl) rfl rfl (Nat.succ_lt_succ (Nat.zero_lt_succ _)) ?_
  refine wX ?_
  refine EffW.ext (e := Extern.AbiNoEscape.same) rfl Tryz.func82 (by kernel_rfl) (by kernel_rfl) (by kernel_rfl) (by kernel_rfl) (.c (.lp 0 1)) ?_ ?_
  ·refine wX ?_
   refine ReadW.fromUnsafe 67 rfl (by kernel_rfl) (by kernel_rfl) (by kernel_rfl) rfl rfl (by show liesAt _ _ _ (5 / _) _ _ _ = true; kernel_rfl) ?_
   refine wX ?_
   exact ⟨(), trivial, rfl, wkH_refl _⟩
  ·intro ρ vs hr
   match vs, hr with
   | [v], hr => exact ⟨v, hr.1, fun w => rfl⟩
   | [], hr => exact hr.elim
   | _ :: _ :: _, hr => exact hr.2.elim
 | true =>
  refine wX ?_
  refine ReadW.lp_nil rfl (by kernel_rfl) rfl rfl false (.inl ⟨rfl, rfl⟩) ?_
  refine wX ?_
  refine ReadW.lp_same rfl (by kernel_rfl) rfl rfl false (.inr ⟨rfl, rfl⟩) ?_
  refine wX ?_
  exact ⟨(), trivial, rfl, wkH_refl _⟩
theorem WriteString_m (u : Bool) (l x : List UInt8) (i0 : BSt) (ok : i0.ok l.length) (room : l.length + x.length ≤ 140737488355328) : SpecH Tryz.prog 34 [.c (.lp 0 1), .c (.v (.string (bs x)))] (wM gv F u l i0 mb sb q)
  (RetG (ι := BSt) (fun i => i.ok (l ++ x).length) (fun _ => .tuple #[.int .i64 x.length, .nilIface]) fun i => wM gv F true (l ++ x) i mb sb q) := by
 refine ownC hm Tryz.func34 (by kernel_rfl) rfl rfl (fun _ _ => wM_ok _ _ _ _ _ _ _ _) (fun _ _ => Nat.le_refl _) ?_
 cases u with
 | false =>
  refine wX ?_
  refine callG (copyCheck_m gv F mb sb q false l i0) [0, 1, 2, 3, 4] rfl ⟨rfl, rfl, rfl, rfl, rfl, trivial⟩ rfl fun _ _ => ?_
  refine wX ?_
  refine EffW.appStr 1 rfl rfl rfl (by kernel_rfl) (by kernel_rfl) (by kernel_rfl) rfl rfl rfl (by rw [bs_size]; exact room) fun ob' cap' h1 h2 h3 => ?_
  rw [bs_size, bs_list] at *
  refine wX ?_
  refine ⟨⟨ob', cap'⟩, ⟨by simpa using h1, by simpa using h2, fun h => ?_⟩, by rw [bs_size], ?_⟩
  ·obtain ⟨h4, h5⟩ := h3 h
   have := ok.2.2 h4
   rw [this] at h5
   cases ob' with
   | none => rfl
   | some _ => cases h5
  ·exact wkH_of_eq (by simp [wM, u8s, bM, rnC, rnCs, rnI, rnE])
 | true =>
  refine wX ?_
  refine callG (copyCheck_m gv F mb sb q true l i0) [0, 1, 2, 3, 4] rfl ⟨rfl, rfl, rfl, rfl, rfl, trivial⟩ rfl fun _ _ => ?_
  refine wX ?_
  refine EffW.appStr 1 rfl rfl rfl (by kernel_rfl) (by kernel_rfl) (by kernel_rfl) rfl rfl rfl (by rw [bs_size]; exact room) fun ob' cap' h1 h2 h3 => ?_
  rw [bs_size, bs_list] at *
  refine wX ?_
  refine ⟨⟨ob', cap'⟩, ⟨by simpa using h1, by simpa using h2, fun h => ?_⟩, by rw [bs_size], ?_⟩
  ·obtain ⟨h4, h5⟩ := h3 h
   have := ok.2.2 h4
   rw [this] at h5
   cases ob' with
   | none => rfl
   | some _ => cases h5
  ·exact wkH_of_eq (by simp [wM, u8s, bM, rnC, rnCs, rnI, rnE])
theorem String_m (u : Bool) (l : List UInt8) (i0 : BSt) (ok : i0.ok l.length) : SpecH Tryz.prog 36 [.c (.lp 0 1)] (wM gv F u l i0 mb sb q)
  (RetG (ι := Unit) (fun _ => True) (fun _ => .string (bs l)) fun _ => [.dead, .dead, .dead, .dead, .fact F]) := by
 refine ownC hm Tryz.func36 (by kernel_rfl) rfl rfl (fun _ _ => ⟨trivial, trivial, trivial, trivial, trivial, trivial⟩) (fun _ _ => Nat.le_refl _) ?_
 refine wX ?_
 refine DrawN.plan [0, 5] [(1, 1), (2, 1), (3, 1), (4, 1), (6, 1), (7, 1), (8, 1), (9, 1)] [(10, 0), (11, 0)] (by decide +kernel) ?_
 refine wX ?_
 refine ReadW.sliceData rfl rfl rfl (fun h h2 => h (ok.2.2 h2)) ?_
 refine wX ?_
 refine EffW.usStr 1 l rfl rfl rfl rfl (by kernel_rfl) (by kernel_rfl) rfl rfl rfl ?_
 refine wX ?_
 exact ⟨(), trivial, rfl, trivial, trivial, trivial, trivial, fun _ h => h, trivial⟩
theorem WriteByte_m (u : Bool) (l : List UInt8) (x : UInt8) (i0 : BSt) (room : l.length + 1 ≤ 140737488355328) : SpecH Tryz.prog 56 [.c (.lp 0 1), .c (.v (.int .u8 (x.toNat : Int)))] (wM gv F u l i0 mb sb q)
  (RetG (ι := BSt) (fun i => i.ok (l ++ [x]).length) (fun _ => .nilIface) fun i => wM gv F true (l ++ [x]) i mb sb q) := by
 refine ownC hm Tryz.func56 (by kernel_rfl) rfl rfl (fun _ _ => wM_ok _ _ _ _ _ _ _ _) (fun _ _ => Nat.le_refl _) ?_
 cases u with
 | false =>
  refine wX ?_
  refine callG (copyCheck_m gv F mb sb q false l i0) [0, 1, 2, 3, 4] rfl ⟨rfl, rfl, rfl, rfl, rfl, trivial⟩ rfl fun _ _ => ?_
  refine wX ?_
  refine Nd.mk ⟨by omega, rfl, rfl⟩ ?_
  (conv => whnf)
  refine AppN.grow 1 (u8s l) _ rfl rfl ⟨by omega, ⟨by show (_ + 1) * 1 ≤ _; omega, by omega⟩, by decide⟩ fun b' cap' h1 h2 => ?_
  refine wX ?_
  have e1 : u8s l ++ [.int .u8 (x.toNat : Int)] = u8s (l ++ [x]) := by simp [u8s]
  have e2 : l.length + 1 = (l ++ [x]).length := by simp
  rw [e1, e2]
  exact ⟨⟨some b', cap'⟩, ⟨(fun h => by cases h), by simpa using h1, fun h => by have h : cap' = 0 := h; omega⟩, rfl, wkE_refl _, wkE_refl _, wkE_refl _, wkE_refl _, wkE_refl _, trivial⟩
 | true =>
  refine wX ?_
  refine callG (copyCheck_m gv F mb sb q true l i0) [0, 1, 2, 3, 4] rfl ⟨rfl, rfl, rfl, rfl, rfl, trivial⟩ rfl fun _ _ => ?_
  refine wX ?_
  refine Nd.mk ⟨by omega, rfl, rfl⟩ ?_
  (conv => whnf)
  refine AppN.grow 1 (u8s l) _ rfl rfl ⟨by omega, ⟨by show (_ + 1) * 1 ≤ _; omega, by omega⟩, by decide⟩ fun b' cap' h1 h2 => ?_
  refine wX ?_
  have e1 : u8s l ++ [.int .u8 (x.toNat : Int)] = u8s (l ++ [x]) := by simp [u8s]
  have e2 : l.length + 1 = (l ++ [x]).length := by simp
  rw [e1, e2]
  exact ⟨⟨some b', cap'⟩, ⟨(fun h => by cases h), by simpa using h1, fun h => by have h : cap' = 0 := h; omega⟩, rfl, wkE_refl _, wkE_refl _, wkE_refl _, wkE_refl _, wkE_refl _, trivial⟩
end Go.Proofs.YtgogonnnojcioaaGreatDoor
namespace Go.Marshal
open Go.Core
def cutS (st : St) (t : B) : St := { st with s := t }
def LocS {α : Type} (F : St → Except Int (α × St)) : Prop := ∀ st a st', F st = .ok (a, st') → ∃ u, st.s = u ++ st'.s ∧ (∀ t, F (cutS st (u ++ t)) = .ok (a, cutS st' t)) ∧ ∀ v w, u = v ++ w → w ≠ [] → F (cutS st v) = .error 14
theorem LocS.ret {α : Type} (a : α) : LocS fun st => .ok (a, st) := fun st a' st' h => by
 cases h
 exact ⟨[], rfl, fun _ => rfl, fun v w e hw => absurd (List.append_eq_nil_iff.1 e.symm).2 hw⟩
theorem LocS.err {α : Type} (e : Int) : LocS (fun _ => (.error e : Except Int (α × St))) := fun st a' st' h => by cases h
theorem LocS.bnd {α β : Type} {F : St → Except Int (α × St)} {G : α → St → Except Int (β × St)} (hF : LocS F) (hG : ∀ a, LocS (G a)) : LocS fun st => bnd (F st) G := by
 intro st b st2 h
 cases hf : F st with
 | error e => simp only [hf] at h; cases h
 | ok p =>
  obtain ⟨a, st1⟩ := p
  simp only [hf] at h
  obtain ⟨u, e1, e2, e3⟩ := hF st a st1 hf
  obtain ⟨v, f1, f2, f3⟩ := hG a st1 b st2 h
  refine ⟨u ++ v, by rw [e1, f1, List.append_assoc], fun t => ?_, fun x w e hw => ?_⟩
  ·show Marshal.bnd (F _) G = _
   rw [List.append_assoc, e2]
   exact f2 t
  ·rcases app_cut e with ⟨z, hz, hz2⟩ | ⟨z, hz, hz2⟩
   ·show Marshal.bnd (F _) G = _
    rw [e3 x z hz hz2]
    rfl
   ·show Marshal.bnd (F _) G = _
    rw [hz, e2]
    exact f3 z w hz2 hw
theorem LocS.next : LocS nextS := by
 intro st a st' h
 unfold nextS at h
 split at h
 ·cases h
 ·rename_i x s hs
  cases h
  refine ⟨[a], hs, fun _ => rfl, fun v w e hw => ?_⟩
  cases v with
  | nil => rfl
  | cons y v =>
   injection e with _ e
   exact absurd (List.append_eq_nil_iff.1 e.symm).2 hw
theorem LocS.num (most : Nat) : LocS (numS most) := by
 intro st a st' h
 unfold numS at h
 split at h
 ·cases h
 ·rename_i n r hr
  cases h
  obtain ⟨u, e1, e2, e3⟩ := rd_loc most _ _ _ hr
  refine ⟨u, e1, fun t => ?_, fun v w e hw => ?_⟩
  ·unfold numS cutS
   simp only [e2]
  ·unfold numS cutS
   simp only [e3 v w e hw]
theorem LocS.text (most : Nat) : LocS (textS most) := by
 intro st a st' h
 unfold textS at h
 split at h
 ·cases h
 ·rename_i n r hr
  cases h
  obtain ⟨u, e1, e2, e3⟩ := rdT_loc most _ _ _ hr
  refine ⟨u, e1, fun t => ?_, fun v w e hw => ?_⟩
  ·unfold textS cutS
   simp only [e2]
  ·unfold textS cutS
   simp only [e3 v w e hw]
theorem LocS.sym (x : UInt8) : LocS (symS x) := by
 intro st a st' h
 unfold symS at h
 split at h
 ·cases h
 ·rename_i t ss r hr
  cases h
  obtain ⟨u, e1, e2, e3⟩ := rdSym_loc x st.ss _ _ _ _ hr
  refine ⟨u, e1, fun t => ?_, fun v w e hw => ?_⟩
  ·unfold symS cutS
   simp only [e2]
  ·unfold symS cutS
   simp only [e3 v w e hw]
theorem LocS.ite {α : Type} {P : Prop} [Decidable P] {F G : St → Except Int (α × St)} (hF : LocS F) (hG : LocS G) : LocS fun st => if P then F st else G st := by
 by_cases h : P
 ·simp only [if_pos h]; exact hF
 ·simp only [if_neg h]; exact hG
theorem LocS.items {f : St → Except Int (Int × St)} (hf : LocS f) : ∀ (n : Nat) (l : List Int), LocS (itemsA f n l)
 | 0, l => LocS.ret l
 | n + 1, l => LocS.bnd hf fun i => LocS.items hf n (l ++ [i])
theorem LocS.attrs {f : St → Except Int (Int × St)} (hf : LocS f) : ∀ (n : Nat) (ns : List B) (l : List Int), LocS (attrsA f n ns l)
 | 0, ns, l => LocS.ret (ns, l)
 | n + 1, ns, l => LocS.bnd LocS.next fun x => LocS.bnd (LocS.sym x) fun t => LocS.ite (LocS.bnd hf fun i => LocS.attrs hf n (ns ++ [t]) (l ++ [i])) (LocS.err 4)
theorem LocS.inner {f : St → Except Int (Int × St)} (hf : LocS f) (x : UInt8) : LocS (innerF f x) :=
 LocS.ite (LocS.ret _) <| LocS.ite (LocS.ret _) <| LocS.ite (LocS.ret _) <| LocS.ite (LocS.bnd (LocS.num _) fun _ => LocS.ret _) <| LocS.ite (LocS.bnd (LocS.text _) fun _ => LocS.ret _) <|
  LocS.ite (LocS.bnd (LocS.sym _) fun _ => LocS.ret _) <| LocS.ite (LocS.bnd (LocS.num _) fun n => LocS.bnd (LocS.items hf n []) fun _ => LocS.ret _) <|
  LocS.ite (LocS.bnd (LocS.num _) fun n => LocS.bnd (LocS.items hf (2 * n) []) fun _ => LocS.ret _) <|
  LocS.bnd LocS.next fun y => LocS.bnd (LocS.sym y) fun _ => LocS.ite (LocS.bnd (LocS.num _) fun n => LocS.bnd (LocS.attrs hf n [] []) fun _ => LocS.ret _) (LocS.err 4)
theorem LocS.wrap {α β : Type} {F : St → Except Int (α × St)} (hF : LocS F) (o : St → St) (ho : ∀ st t, o (cutS st t) = cutS (o st) t) (hs : ∀ st, (o st).s = st.s)
  (k : St → α → β) (hk : ∀ st t a, k (cutS st t) a = k st a) (e : St → α → St → St) (he : ∀ st t a st', e (cutS st t) a st' = e st a st') (hes : ∀ st a st', (e st a st').s = st'.s) (hec : ∀ st a st' t, e st a (cutS st' t) = cutS (e st a st') t) :
  LocS fun st => Marshal.bnd (F (o st)) fun a st' => .ok (k st a, e st a st') := by
 intro st b st2 h
 cases hf : F (o st) with
 | error x => simp only [hf] at h; cases h
 | ok p =>
  obtain ⟨a, st1⟩ := p
  simp only [hf] at h
  cases h
  obtain ⟨u, e1, e2, e3⟩ := hF _ a st1 hf
  refine ⟨u, by rw [← hs st, e1, hes], fun t => ?_, fun v w ee hw => ?_⟩
  ·show Marshal.bnd (F (o (cutS st (u ++ t)))) _ = _
   rw [ho, e2]
   show Except.ok _ = _
   rw [hk, he, hec]
  ·show Marshal.bnd (F (o (cutS st v))) _ = _
   rw [ho, e3 v w ee hw]
   rfl
theorem LocS.form : ∀ n : Nat, LocS (formF n)
 | 0 => LocS.err 99
 | n + 1 => by
  refine LocS.bnd LocS.next fun x => LocS.ite (LocS.bnd (LocS.num _) fun k => ?_) ?_
  ·intro st a st' h
   simp only at h
   split at h
   ·rename_i c hc
    cases h
    exact ⟨[], rfl, fun t => by simp only [cutS, hc]; rfl, fun v w e hw => absurd (List.append_eq_nil_iff.1 e.symm).2 hw⟩
   ·cases h
  ·have h1 : LocS fun st => Marshal.bnd (innerF (formF n) x (openS x st)) fun c st' => .ok ((st.g.length : Int), setS st.g.length c st') :=
    LocS.wrap (LocS.inner (LocS.form n) x) (openS x) (fun _ _ => rfl) (fun _ => rfl) (fun st _ => (st.g.length : Int)) (fun _ _ _ => rfl) (fun st c st' => setS st.g.length c st') (fun _ _ _ _ => rfl) (fun _ _ _ => rfl) (fun _ _ _ _ => rfl)
   intro st a st' h
   simp only at h
   split at h
   ·cases h
   ·rename_i hc
    obtain ⟨u, e1, e2, e3⟩ := h1 st a st' h
    refine ⟨u, e1, fun t => ?_, fun v w e hw => ?_⟩
    ·have := e2 t
     show (if 500 ≤ st.g.length ∨ x ∉ begins then _ else _) = _
     rw [if_neg hc]
     exact this
    ·have := e3 v w e hw
     show (if 500 ≤ st.g.length ∨ x ∉ begins then _ else _) = _
     rw [if_neg hc]
     exact this
theorem LocS.le {α : Type} {F : St → Except Int (α × St)} (h : LocS F) {st st' : St} {a : α} (e : F st = .ok (a, st')) : st'.s.length ≤ st.s.length := by
 obtain ⟨u, e1, _⟩ := h st a st' e
 rw [e1, List.length_append]; omega
theorem bnd_congr {α β : Type} {x : Except Int (α × St)} {G H : α → St → Except Int (β × St)} (h : ∀ a st, x = .ok (a, st) → G a st = H a st) : bnd x G = bnd x H := by
 cases x with
 | error e => rfl
 | ok p => obtain ⟨a, st⟩ := p; exact h a st rfl
theorem items_congr {f h : St → Except Int (Int × St)} (hf : LocS f) {m : Nat} (e : ∀ st, st.s.length ≤ m → f st = h st) : ∀ (n : Nat) (l : List Int) (st : St), st.s.length ≤ m → itemsA f n l st = itemsA h n l st
 | 0, _, _, _ => rfl
 | n + 1, l, st, hs => by
  unfold itemsA
  rw [← e st hs]
  exact bnd_congr fun i st1 h1 => items_congr hf e n _ st1 (Nat.le_trans (hf.le h1) hs)
theorem attrs_congr {f h : St → Except Int (Int × St)} (hf : LocS f) {m : Nat} (e : ∀ st, st.s.length ≤ m → f st = h st) : ∀ (n : Nat) (ns : List B) (l : List Int) (st : St), st.s.length ≤ m → attrsA f n ns l st = attrsA h n ns l st
 | 0, _, _, _, _ => rfl
 | n + 1, ns, l, st, hs => by
  unfold attrsA
  refine bnd_congr fun x st1 h1 => bnd_congr fun t st2 h2 => ?_
  have l1 := LocS.next.le h1
  have l2 := (LocS.sym x).le h2
  split
  ·rw [← e st2 (by omega)]
   exact bnd_congr fun i st3 h3 => attrs_congr hf e n _ _ st3 (by have := hf.le h3; omega)
  ·rfl
theorem inner_congr {f h : St → Except Int (Int × St)} (hf : LocS f) {m : Nat} (e : ∀ st, st.s.length ≤ m → f st = h st) (x : UInt8) (st : St) (hs : st.s.length ≤ m) : innerF f x st = innerF h x st := by
 unfold innerF
 split
 ·rfl
 split
 ·rfl
 split
 ·rfl
 split
 ·rfl
 split
 ·rfl
 split
 ·rfl
 split
 ·refine bnd_congr fun n st1 h1 => ?_
  rw [items_congr hf e n [] st1 (by have := (LocS.num _).le h1; omega)]
 split
 ·refine bnd_congr fun n st1 h1 => ?_
  rw [items_congr hf e (2 * n) [] st1 (by have := (LocS.num _).le h1; omega)]
 refine bnd_congr fun y st1 h1 => bnd_congr fun t st2 h2 => ?_
 have l1 := LocS.next.le h1
 have l2 := (LocS.sym y).le h2
 split
 ·refine bnd_congr fun n st3 h3 => ?_
  rw [attrs_congr hf e n [] [] st3 (by have := (LocS.num _).le h3; omega)]
 ·rfl
theorem form_stab : ∀ (n m : Nat) (st : St), st.s.length < n → st.s.length < m → formF n st = formF m st
 | 0, _, _, h, _ => by omega
 | _ + 1, 0, _, _, h => by omega
 | n + 1, m + 1, st, h1, h2 => by
  unfold formF
  refine bnd_congr fun x st1 h3 => ?_
  have hl : st1.s.length + 1 = st.s.length := by
   unfold nextS at h3
   split at h3
   ·cases h3
   ·rename_i y s hs
    cases h3
    rw [hs]; rfl
  split
  ·rfl
  split
  ·rfl
  rw [inner_congr (h := formF m) (LocS.form n) (m := st1.s.length) (fun st2 h4 => form_stab n m st2 (by omega) (by omega)) x (openS x st1) (Nat.le_refl _)]
noncomputable def formS (st : St) : Except Int (Int × St) := formF (st.s.length + 1) st
theorem formS_eq {n : Nat} {st : St} (h : st.s.length < n) : formS st = formF n st := form_stab _ _ _ (Nat.lt_succ_self _) h
end Go.Marshal
namespace Go.Marshal
open Go.Core
def Gone (w w' : Wr) : Prop := ∃ b cs ts, w' = ⟨w.out ++ b, w.cells ++ cs, w.ss ++ ts⟩
theorem Gone.refl (w : Wr) : Gone w w := ⟨[], [], [], by simp⟩
theorem Gone.trans {a b c : Wr} (h : Gone a b) (k : Gone b c) : Gone a c := by
 obtain ⟨x, y, z, rfl⟩ := h
 obtain ⟨p, q, r, rfl⟩ := k
 exact ⟨x ++ p, y ++ q, z ++ r, by simp⟩
theorem gone_put (w : Wr) (b : B) : Gone w (putW w b) := ⟨b, [], [], by simp [putW]⟩
theorem gone_sym (w : Wr) (t : B) : Gone w (symW w t) := by
 unfold symW
 split
 ·exact gone_put w _
 ·exact ⟨58 :: (num t.length ++ t), [], [t], by simp⟩
theorem gone_cell (w : Wr) (a : Int) : Gone w { w with cells := w.cells ++ [a] } := ⟨[], [a], [], by simp⟩
theorem gone_fold {α : Type} {f : Wr → α → Wr} (h : ∀ w x, Gone w (f w x)) : ∀ (l : List α) (w : Wr), Gone w (l.foldl f w)
 | [], w => Gone.refl w
 | x :: l, w => (h w x).trans (gone_fold h l (f w x))
theorem gone_write (g : List Cell) : ∀ (n : Nat) (w : Wr) (a : Int), Gone w (writeF g n w a)
 | 0, w, _ => Gone.refl w
 | n + 1, w, a => by
  unfold writeF
  simp only
  split
  ·exact gone_put _ _
  split
  ·exact gone_put _ _
  split
  ·exact gone_put _ _
  split
  ·exact gone_put _ _
  split
  ·exact gone_sym _ _
  split
  ·exact gone_put _ _
  refine (gone_cell w a).trans ?_
  split
  ·exact gone_put _ _
  split
  ·exact (gone_put _ _).trans (gone_fold (gone_write g n) _ _)
  split
  ·exact (gone_put _ _).trans (gone_fold (gone_write g n) _ _)
  ·refine (((gone_put _ _).trans (gone_sym _ _)).trans (gone_put _ _)).trans (gone_fold (fun w p => ?_) _ _)
   exact (gone_sym w p.1).trans (gone_write g n _ p.2)
theorem Gone.out {w w' : Wr} (h : Gone w w') : ∃ b, w'.out = w.out ++ b := by obtain ⟨b, _, _, rfl⟩ := h; exact ⟨b, rfl⟩
theorem Gone.sub {w w' : Wr} (h : Gone w w') : ∀ x ∈ w.cells, x ∈ w'.cells := by
 obtain ⟨_, cs, _, rfl⟩ := h
 exact fun x hx => List.mem_append_left _ hx
def wgt (F : Cell → Nat) (g : List Cell) (cs : List Int) : Nat := (((List.range g.length).filter fun (k : Nat) => !decide ((k : Int) ∈ cs)).map fun (k : Nat) => F (at_ g (k : Int))).sum
theorem wgt_drop (F : Cell → Nat) (g : List Cell) (p q : Nat → Bool) (a : Nat) (hpq : ∀ k, q k = (p k && !decide (k = a))) (hp : p a = true) : ∀ l : List Nat, l.Nodup → a ∈ l → ((l.filter q).map fun (k : Nat) => F (at_ g (k : Int))).sum + F (at_ g (a : Int)) = ((l.filter p).map fun (k : Nat) => F (at_ g (k : Int))).sum
 | [], _, h => by cases h
 | x :: l, hn, hm => by
  have hn2 := List.nodup_cons.1 hn
  rw [List.filter_cons, List.filter_cons]
  by_cases e : x = a
  ·subst e
   have hq : q x = false := by rw [hpq]; simp
   have hf : l.filter q = l.filter p := List.filter_congr fun k hk => by
    rw [hpq]
    have : k ≠ x := fun h => hn2.1 (h ▸ hk)
    simp [this]
   rw [hp, hq, hf, if_pos rfl, if_neg (by simp)]
   simp only [List.map_cons, List.sum_cons]; omega
  ·have ih := wgt_drop F g p q a hpq hp l hn2.2 ((List.mem_cons.1 hm).resolve_left (fun h => e h.symm))
   have hq : q x = p x := by rw [hpq]; simp [e]
   rw [hq]
   split
   ·simp only [List.map_cons, List.sum_cons]; omega
   ·exact ih
theorem wgt_new {F : Cell → Nat} {g : List Cell} {cs : List Int} {a : Int} (ha : InI g a) (hn : a ∉ cs) : wgt F g (cs ++ [a]) + F (at_ g a) = wgt F g cs := by
 have e : ((a.toNat : Nat) : Int) = a := by have := ha.1; omega
 have := wgt_drop F g (fun (k : Nat) => !decide ((k : Int) ∈ cs)) (fun (k : Nat) => !decide ((k : Int) ∈ cs ++ [a])) a.toNat (fun k => by
  have : (k = a.toNat) ↔ ((k : Int) = a) := by have := ha.1; omega
  rw [decide_eq_decide.2 this, ← Bool.not_or, ← Bool.decide_or]
  simp only [List.mem_append, List.mem_singleton]) (by simp only [e]; simp [hn]) (List.range g.length) List.nodup_range (List.mem_range.2 (by have := ha.1; have := ha.2; omega))
 rw [e] at this
 exact this
theorem wgt_le {F : Cell → Nat} {g : List Cell} {m : Nat} (h : ∀ i, InI g i → F (at_ g i) ≤ m) (cs : List Int) : wgt F g cs ≤ g.length * m := by
 have key : ∀ l : List Nat, (∀ k ∈ l, F (at_ g (k : Int)) ≤ m) → (l.map fun (k : Nat) => F (at_ g (k : Int))).sum ≤ l.length * m := by
  intro l
  induction l with
  | nil => exact fun _ => Nat.zero_le _
  | cons x l ih =>
   intro hl
   have h1 := hl x (by simp)
   have h2 := ih fun k hk => hl k (by simp [hk])
   rw [List.map_cons, List.sum_cons, List.length_cons, Nat.succ_mul]
   omega
 refine Nat.le_trans (key _ fun k hk => h _ ?_) (Nat.mul_le_mul_right m ?_)
 ·have := List.mem_range.1 (List.mem_filter.1 hk).1
  exact ⟨by omega, by omega⟩
 ·refine Nat.le_trans (List.length_filter_le _ _) ?_
  rw [List.length_range]
  exact Nat.le_refl _
structure CellW (K : Nat) (c : Cell) : Prop where
 kind : 0 ≤ c.kind ∧ c.kind ≤ 8
 num : c.kind = 3 → -(maxN : Int) ≤ c.num ∧ c.num ≤ (maxN : Int)
 num0 : c.kind ≠ 3 → c.num = 0
 text : c.text.length ≤ 2000 ∧ c.text.length + 30 ≤ K
 sym : c.kind = 5 → c.text.length ≤ 40
 cls : c.kind = 8 → Go.Scan.icB c.text = true ∧ c.text.length ≤ 40
 text0 : c.kind ≠ 4 → c.kind ≠ 5 → c.kind ≠ 8 → c.text = []
 leaf : c.kind ≤ 5 → c.items = [] ∧ c.names = []
 nam0 : c.kind ≠ 8 → c.names = []
 even : c.kind = 7 → c.items.length % 2 = 0
 lens : c.kind = 8 → c.names.length = c.items.length
 dup : c.names.Nodup
 nam : ∀ t ∈ c.names, Go.Scan.iiB t = true ∧ t.length ≤ 40
 len : c.items.length ≤ 2000
theorem put_len (w : Wr) (b : B) : (putW w b).out.length = w.out.length + b.length := by unfold putW; simp
theorem sym_len (w : Wr) (t : B) (ht : t.length ≤ 2000) (hs : w.ss.length ≤ maxN) : (symW w t).out.length ≤ w.out.length + (t.length + 10) := by
 have hm : maxN = 1000000000000000 := rfl
 unfold symW
 split
 ·rename_i h
  have := List.idxOf_lt_length_iff.2 h
  have := num_len (n := w.ss.idxOf t) (by omega)
  rw [put_len]
  simp only [List.length_cons]; omega
 ·have := num_len (n := t.length) (by omega)
  simp only [List.length_append, List.length_cons]; omega
def Few (w : Wr) : Prop := w.ss.length ≤ maxN ∧ w.cells.length ≤ maxN
theorem Gone.few {w w' : Wr} (h : Gone w w') (k : Few w') : Few w := by
 obtain ⟨_, cs, ts, rfl⟩ := h
 have h1 := k.1
 have h2 := k.2
 simp only [List.length_append] at h1 h2
 exact ⟨by omega, by omega⟩
theorem fold_out {α : Type} {f : Wr → α → Wr} {Φ : Wr → Nat} {c : Nat} (hf : ∀ w x, Gone w (f w x)) : ∀ (l : List α) (w : Wr), (∀ w, ∀ x ∈ l, Few (f w x) → (f w x).out.length + Φ (f w x) ≤ w.out.length + Φ w + c) → Few (l.foldl f w) → (l.foldl f w).out.length + Φ (l.foldl f w) ≤ w.out.length + Φ w + c * l.length
 | [], w, _, _ => by simp
 | x :: l, w, h, hM => by
  rw [List.foldl_cons] at hM ⊢
  have h0 := (gone_fold hf l (f w x)).few hM
  have h1 := h w x (by simp) h0
  have h2 := fold_out hf l (f w x) (fun w y hy => h w y (by simp [hy])) hM
  rw [List.length_cons, Nat.mul_add]; omega
def iN (c : Cell) : Nat := c.items.length + c.names.length
theorem put_cells (w : Wr) (b : B) : (putW w b).cells = w.cells := rfl
theorem sym_cells (w : Wr) (t : B) : (symW w t).cells = w.cells := by
 unfold symW
 split <;> rfl
theorem write_len {g : List Cell} {K : Nat} (hg : InG g) (hc : ∀ i, InI g i → CellW K (at_ g i)) (hK : 60 ≤ K) : ∀ (n : Nat) (w : Wr) (a : Int), InI g a → Few (writeF g n w a) →
  (writeF g n w a).out.length + K * wgt iN g (writeF g n w a).cells ≤ w.out.length + K * wgt iN g w.cells + K
 | 0, w, a, _, _ => by unfold writeF; omega
 | n + 1, w, a, ha, hF => by
  have hm : maxN = 1000000000000000 := rfl
  have c := hc a ha
  have hFw := (gone_write g (n + 1) w a).few hF
  have ht := c.text
  unfold writeF at hF ⊢
  simp only at hF ⊢
  split
  ·rw [put_cells, put_len]; simp only [List.length_cons, List.length_nil]; omega
  split
  ·rw [put_cells, put_len]; simp only [List.length_cons, List.length_nil]; omega
  split
  ·rw [put_cells, put_len]; simp only [List.length_cons, List.length_nil]; omega
  split
  ·rename_i h3
   have h4 := c.num h3
   have := num_len (n := sgn (at_ g a).num) (by unfold sgn; split <;> omega)
   rw [put_cells, put_len]; simp only [List.length_cons]; omega
  split
  ·have := sym_len w (at_ g a).text ht.1 hFw.1
   rw [sym_cells]; omega
  split
  ·rename_i h6
   have := List.idxOf_lt_length_iff.2 h6
   have := num_len (n := w.cells.idxOf a) (by have := hFw.2; omega)
   rw [put_cells, put_len]; simp only [List.length_cons]; omega
  rename_i k0 k1 k2 k3 k5 hm2
  rw [if_neg k0, if_neg k1, if_neg k2, if_neg k3, if_neg k5, if_neg hm2] at hF
  have hw := wgt_new (F := iN) ha hm2
  have hw2 : K * wgt iN g (w.cells ++ [a]) + K * iN (at_ g a) = K * wgt iN g w.cells := by rw [← Nat.mul_add, hw]
  have hl := c.len
  have hn1 := num_len (n := (at_ g a).items.length) (by omega)
  have hn2 := num_len (n := (at_ g a).items.length / 2) (by omega)
  have step : ∀ w, ∀ x ∈ (at_ g a).items, Few (writeF g n w x) → (writeF g n w x).out.length + K * wgt iN g (writeF g n w x).cells ≤ w.out.length + K * wgt iN g w.cells + K := fun w x hx => write_len hg hc hK n w x (outs_in hg ha hx)
  split
  ·have := num_len (n := (at_ g a).text.length) (by omega)
   rw [put_cells, put_len]; simp only [List.length_cons, List.length_append]
   omega
  rename_i k4
  rw [if_neg k4] at hF
  split
  ·rename_i k6
   rw [if_pos k6] at hF
   have := fold_out (Φ := fun w => K * wgt iN g w.cells) (c := K) (gone_write g n) (at_ g a).items _ step hF
   refine Nat.le_trans this ?_
   rw [put_cells, put_len]
   simp only [List.length_cons]
   have : K * iN (at_ g a) ≥ K * (at_ g a).items.length := Nat.mul_le_mul_left K (by unfold iN; omega)
   omega
  rename_i k6
  rw [if_neg k6] at hF
  split
  ·rename_i k7
   rw [if_pos k7] at hF
   have := fold_out (Φ := fun w => K * wgt iN g w.cells) (c := K) (gone_write g n) (at_ g a).items _ step hF
   refine Nat.le_trans this ?_
   rw [put_cells, put_len]
   simp only [List.length_cons]
   have : K * iN (at_ g a) ≥ K * (at_ g a).items.length := Nat.mul_le_mul_left K (by unfold iN; omega)
   omega
  rename_i k7
  rw [if_neg k7] at hF
  have k8 : (at_ g a).kind = 8 := by have := c.kind; omega
  have hgone := gone_fold (f := fun w (p : B × Int) => writeF g n (symW w p.1) p.2) (fun w p => (gone_sym w p.1).trans (gone_write g n _ p.2)) ((at_ g a).names.zip (at_ g a).items)
  have hFs := (hgone _).few hF
  have hcl := c.cls k8
  have hn3 := num_len (n := (at_ g a).names.length) (by rw [c.lens k8]; omega)
  have := fold_out (Φ := fun w => K * wgt iN g w.cells) (c := 2 * K) (f := fun w (p : B × Int) => writeF g n (symW w p.1) p.2) (fun w p => (gone_sym w p.1).trans (gone_write g n _ p.2)) ((at_ g a).names.zip (at_ g a).items) _ (fun w p hp hFp => by
   have hz := List.of_mem_zip (a := p.1) (b := p.2) hp
   have h1 := step (symW w p.1) p.2 hz.2 hFp
   have hFw2 := ((gone_sym w p.1).trans (gone_write g n _ p.2)).few hFp
   have h2 := sym_len w p.1 (by have := (c.nam p.1 hz.1).2; omega) hFw2.1
   have := (c.nam p.1 hz.1).2
   rw [sym_cells] at h1
   omega) hF
  refine Nat.le_trans this ?_
  rw [put_cells, put_len, sym_cells, put_cells]
  have hs := sym_len (putW { w with cells := w.cells ++ [a] } [111]) (at_ g a).text ht.1 (by show w.ss.length ≤ _; exact hFw.1)
  rw [put_len] at hs
  simp only [List.length_cons, List.length_nil] at hs ⊢
  have hz2 : ((at_ g a).names.zip (at_ g a).items).length = (at_ g a).items.length := by rw [List.length_zip, c.lens k8]; omega
  rw [hz2]
  have : K * iN (at_ g a) = 2 * K * (at_ g a).items.length := by unfold iN; rw [c.lens k8, ← Nat.two_mul, ← Nat.mul_assoc, Nat.mul_comm K 2]
  omega
end Go.Marshal
namespace Go.Marshal
open Go.Core
theorem formS_unfold (st : St) : formS st = bnd (nextS st) fun x st1 => if x = 64 then bnd (numS maxN st1) (fun k st2 => match st2.cells[k]? with
   | some c => .ok (c, st2)
   | none => .error 4)
  else if 500 ≤ st1.g.length ∨ x ∉ begins then .error 4
  else bnd (innerF formS x (openS x st1)) fun c st' => .ok ((st1.g.length : Int), setS st1.g.length c st') := by
 show formF (st.s.length + 1) st = _
 conv => lhs; unfold formF
 refine bnd_congr fun x st1 h3 => ?_
 have hl : st1.s.length + 1 = st.s.length := by
  unfold nextS at h3
  split at h3
  ·cases h3
  ·rename_i y s hs
   cases h3
   rw [hs]; rfl
 split
 ·rfl
 split
 ·rfl
 rw [inner_congr (h := formS) (LocS.form st.s.length) (m := st1.s.length) (fun st2 h4 => (formS_eq (by omega)).symm) x (openS x st1) (Nat.le_refl _)]
theorem form_named {st : St} {s : B} (hs : st.s = 64 :: s) : formS st = bnd (numS maxN { st with s := s }) fun k st2 => match st2.cells[k]? with
   | some c => .ok (c, st2)
   | none => .error 4 := by
 rw [formS_unfold]
 unfold nextS
 rw [hs]
 rfl
theorem form_byte {st : St} {x : UInt8} {s : B} (hs : st.s = x :: s) (h64 : x ≠ 64) (hb : x ∈ begins) : formS st = if 500 ≤ st.g.length then .error 4 else bnd (innerF formS x (openS x { st with s := s })) fun c st' => .ok ((st.g.length : Int), setS st.g.length c st') := by
 rw [formS_unfold]
 unfold nextS
 rw [hs]
 show (if x = 64 then _ else if 500 ≤ st.g.length ∨ x ∉ begins then _ else _) = _
 rw [if_neg h64]
 by_cases h : 500 ≤ st.g.length
 ·rw [if_pos h, if_pos (.inl h)]
 ·rw [if_neg h, if_neg (by rintro (h2 | h2); exact h h2; exact h2 hb)]
def lk (org : List Int) (i : Int) : Int := org.getD i.toNat 0
theorem lk_app {org on : List Int} {i : Int} (h : 0 ≤ i ∧ i < (org.length : Int)) : lk (org ++ on) i = lk org i := by
 unfold lk
 rw [List.getD_eq_getElem?_getD, List.getD_eq_getElem?_getD, List.getElem?_append_left (by omega)]
theorem lk_new (org : List Int) (a : Int) (on : List Int) : lk (org ++ a :: on) (org.length : Int) = a := by
 unfold lk
 rw [Int.toNat_natCast, List.getD_eq_getElem?_getD, List.getElem?_append_right (Nat.le_refl _), Nat.sub_self]
 rfl
structure Rl (w : Wr) (st : St) (org : List Int) : Prop where
 ss : st.ss = w.ss
 len : org.length = st.g.length
 cells : st.cells.map (lk org) = w.cells
 rng : ∀ i ∈ st.cells, 0 ≤ i ∧ i < (st.g.length : Int)
structure Good (g : List Cell) (org : List Int) (n : Nat) (c : Cell) (x : Int) : Prop where
 cell : at_ g x = reNum (lk org) c
 rng : ∀ y ∈ c.items, 0 ≤ y ∧ y < (n : Int)
 inI : InI g x
def shared (c : Cell) : Prop := c.kind = 4 ∨ 6 ≤ c.kind
structure Ex (g : List Cell) (st st' : St) (org org' : List Int) (new : List Cell) (on : List Int) : Prop where
 g_ : st'.g = st.g ++ new
 o_ : org' = org ++ on
 len : on.length = new.length
 good : ∀ (j : Nat) (c : Cell) (x : Int), new[j]? = some c → on[j]? = some x → Good g org' st'.g.length c x ∧ (shared c → ((st.g.length + j : Nat) : Int) ∈ st'.cells)
 sub : ∀ i ∈ st.cells, i ∈ st'.cells
theorem Good.mono {g : List Cell} {org on : List Int} {n m : Nat} {c : Cell} {x : Int} (h : Good g org n c x) (ho : org.length = n) (hm : n ≤ m) : Good g (org ++ on) m c x :=
 ⟨by
  rw [h.cell]
  unfold reNum
  congr 1
  exact List.map_congr_left fun y hy => (lk_app (by rw [ho]; exact h.rng y hy)).symm, fun y hy => by have := h.rng y hy; omega, h.inI⟩
theorem Ex.refl (g : List Cell) (st : St) (org : List Int) (s : B) (ss : List B) : Ex g st { st with s := s, ss := ss } org org [] [] :=
 ⟨by simp, by simp, rfl, fun j c x h => by simp at h, fun _ h => h⟩
theorem Ex.trans {g : List Cell} {st st1 st2 : St} {org org1 org2 : List Int} {n1 n2 : List Cell} {o1 o2 : List Int} (h : Ex g st st1 org org1 n1 o1) (k : Ex g st1 st2 org1 org2 n2 o2) (hl : org.length = st.g.length) : Ex g st st2 org org2 (n1 ++ n2) (o1 ++ o2) := by
 have hl1 : org1.length = st1.g.length := by rw [h.o_, h.g_, List.length_append, List.length_append, hl, h.len]
 refine ⟨by rw [k.g_, h.g_, List.append_assoc], by rw [k.o_, h.o_, List.append_assoc], by rw [List.length_append, List.length_append, h.len, k.len], fun j c x hc hx => ?_, fun i hi => k.sub i (h.sub i hi)⟩
 rcases Nat.lt_or_ge j n1.length with hj | hj
 ·rw [List.getElem?_append_left hj] at hc
  rw [List.getElem?_append_left (by rw [h.len]; exact hj)] at hx
  obtain ⟨g1, g2⟩ := h.good j c x hc hx
  rw [k.o_, k.g_]
  refine ⟨g1.mono hl1 (by rw [List.length_append]; omega), fun hs => k.sub _ (g2 hs)⟩
 ·rw [List.getElem?_append_right hj] at hc
  rw [List.getElem?_append_right (by rw [h.len]; exact hj), h.len] at hx
  obtain ⟨g1, g2⟩ := k.good _ c x hc hx
  refine ⟨g1, fun hs => ?_⟩
  have := g2 hs
  rw [h.g_, List.length_append] at this
  rw [show st.g.length + j = st.g.length + n1.length + (j - n1.length) by omega]
  exact this
theorem reNum_nil {φ : Int → Int} {c : Cell} (h : c.items = []) : reNum φ c = c := by
 cases c
 simp only at h
 subst h
 rfl
def iT (c : Cell) : Nat := c.items.length
theorem sym_back {w : Wr} {t : B} (ht : t.length ≤ 40) (hs : w.ss.length ≤ maxN) : ∃ x b, (symW w t).out = w.out ++ x :: b ∧ (x = 58 ∨ x = 59) ∧ ∀ tail, rdSym x w.ss (b ++ tail) = .ok (t, (symW w t).ss, tail) := by
 have hm : maxN = 1000000000000000 := rfl
 unfold symW
 by_cases h : t ∈ w.ss
 ·have hi := List.idxOf_lt_length_iff.2 h
  rw [if_pos h]
  refine ⟨59, num (w.ss.idxOf t), rfl, .inr rfl, fun tail => ?_⟩
  unfold rdSym
  rw [if_pos rfl, rd_num (by omega) (by omega)]
  simp only
  rw [List.getElem?_eq_getElem hi, List.getElem_idxOf hi]
  rfl
 ·rw [if_neg h]
  refine ⟨58, num t.length ++ t, rfl, .inl rfl, fun tail => ?_⟩
  unfold rdSym rdT
  rw [if_neg (by decide), if_pos rfl, List.append_assoc, rd_num (by omega) (by omega)]
  simp only
  rw [if_neg (by omega), if_neg (by rw [List.length_append]; omega)]
  simp only
  rw [List.take_left, List.drop_left, if_neg h]
def Back (g : List Cell) (w w' : Wr) (a : Int) : Prop := ∃ b, w'.out = w.out ++ b ∧ ∀ (tail : B) (st : St) (org : List Int), Rl w st org → st.s = b ++ tail →
 (∃ i st' org' new on, formS st = .ok (i, st') ∧ st'.s = tail ∧ Rl w' st' org' ∧ Ex g st st' org org' new on ∧ (0 ≤ i ∧ i < (st'.g.length : Int)) ∧ lk org' i = a ∧ (i = (st.g.length : Int) ∨ i ∈ st.cells) ∧ st'.g.length + wgt iT g w'.cells ≤ st.g.length + wgt iT g w.cells + 1) ∨
 (formS st = .error 4 ∧ 500 < st.g.length + 1 + wgt iT g w.cells)
theorem back_leaf {g : List Cell} {w w' : Wr} {a : Int} {x : UInt8} {b : B} {c : Cell} (ha : InI g a) (hw : w'.out = w.out ++ x :: b) (h64 : x ≠ 64) (hb : x ∈ begins) (hn : x ∉ named) (hc : at_ g a = c) (h0 : c.items = []) (hsh : ¬ shared c) (hcells : w'.cells = w.cells)
  (hi : ∀ (tail : B) (st : St), st.ss = w.ss → st.s = b ++ tail → innerF formS x st = .ok (c, { st with s := tail, ss := w'.ss })) : Back g w w' a := by
 refine ⟨x :: b, hw, fun tail st org hR hs => ?_⟩
 have hs2 : st.s = x :: (b ++ tail) := hs
 rw [form_byte hs2 h64 hb]
 by_cases h : 500 ≤ st.g.length
 ·rw [if_pos h]
  exact .inr ⟨rfl, by omega⟩
 ·rw [if_neg h, hi tail (openS x { st with s := b ++ tail }) hR.ss rfl]
  have hop : (openS x { st with s := b ++ tail }).cells = st.cells := by unfold openS; simp only; rw [if_neg hn]
  have hg : (openS x { st with s := b ++ tail }).g = st.g ++ [nilC] := rfl
  refine .inl ⟨(st.g.length : Int), ⟨tail, st.g ++ [c], st.cells, w'.ss⟩, org ++ [a], [c], [a], ?_, rfl, ⟨rfl, by simp [hR.len], ?_, fun i hi => ?_⟩, ⟨rfl, rfl, rfl, fun j d y hd hy => ?_, fun _ h => h⟩, ⟨by omega, by simp; omega⟩, ?_, .inl rfl, ?_⟩
  ·show Except.ok _ = _
   unfold setS
   simp only [hop, hg]
   rw [List.set_append_right _ _ (Nat.le_refl _), Nat.sub_self]
   rfl
  ·rw [hcells, ← hR.cells]
   exact List.map_congr_left fun y hy => lk_app (by rw [hR.len]; exact hR.rng y hy)
  ·have := hR.rng i hi
   simp only [List.length_append, List.length_cons, List.length_nil]
   omega
  ·cases j with
   | succ j => simp at hd
   | zero =>
    obtain rfl := Option.some.inj hd
    obtain rfl := Option.some.inj hy
    refine ⟨⟨?_, ?_, ha⟩, fun k => absurd k hsh⟩
    ·rw [hc, reNum_nil h0]
    ·rw [h0]; exact fun _ h => by cases h
  ·rw [← hR.len]; exact lk_new org a []
  ·rw [hcells]
   simp only [List.length_append, List.length_cons, List.length_nil]
   omega
end Go.Marshal
namespace Go.Marshal
open Go.Core
theorem num_ok {most n : Nat} {st : St} {tail : B} (h : n ≤ most) (hm : most ≤ 2 * maxN) (hs : st.s = num n ++ tail) : numS most st = .ok (n, { st with s := tail }) := by
 have : maxN = 1000000000000000 := rfl
 unfold numS
 rw [hs, rd_num h (by omega)]
theorem back_open {g : List Cell} {w w' : Wr} {a : Int} {x : UInt8} {b : B} (hw : w'.out = w.out ++ x :: b) (h64 : x ≠ 64) (hb : x ∈ begins) (hn : x ∈ named)
  (hi : ∀ (tail : B) (st : St) (org : List Int), Rl { w with cells := w.cells ++ [a] } st org → st.s = b ++ tail →
   (∃ c st' org' new on, innerF formS x st = .ok (c, st') ∧ st'.s = tail ∧ Rl w' st' org' ∧ Ex g st st' org org' new on ∧ Good g org' st'.g.length c a ∧ st'.g.length + wgt iT g w'.cells ≤ st.g.length + wgt iT g w.cells) ∨
   (innerF formS x st = .error 4 ∧ 500 < st.g.length + wgt iT g w.cells)) : Back g w w' a := by
 refine ⟨x :: b, hw, fun tail st org hR hs => ?_⟩
 have hs2 : st.s = x :: (b ++ tail) := hs
 rw [form_byte hs2 h64 hb]
 by_cases h : 500 ≤ st.g.length
 ·rw [if_pos h]
  exact .inr ⟨rfl, by omega⟩
 ·rw [if_neg h]
  have hoc : (openS x { st with s := b ++ tail }).cells = st.cells ++ [(st.g.length : Int)] := by unfold openS; simp only; rw [if_pos hn]
  have hog : (openS x { st with s := b ++ tail }).g = st.g ++ [nilC] := rfl
  have hlr := hR.len
  obtain ⟨o, ho⟩ : ∃ o, o = openS x { st with s := b ++ tail } := ⟨_, rfl⟩
  have hRo : Rl { w with cells := w.cells ++ [a] } o (org ++ [a]) := by
   refine ⟨by rw [ho]; exact hR.ss, by rw [ho, hog]; simp [hlr], ?_, fun i hi => ?_⟩
   ·rw [ho, hoc, List.map_append, ← hR.cells]
    congr 1
    ·exact List.map_congr_left fun y hy => lk_app (by rw [hlr]; exact hR.rng y hy)
    ·show [lk _ _] = [a]
     rw [← hlr, lk_new org a []]
   ·rw [ho, hoc] at hi
    rw [ho, hog, List.length_append]
    rcases List.mem_append.1 hi with hi | hi
    ·have := hR.rng i hi; simp only [List.length_cons, List.length_nil]; omega
    ·rw [List.mem_singleton.1 hi]; simp only [List.length_cons, List.length_nil]; omega
  have hol : o.g.length = st.g.length + 1 := by rw [ho, hog]; simp
  rw [← ho]
  rcases hi tail o (org ++ [a]) hRo (by rw [ho]; rfl) with ⟨c, st', org', new, on, h1, h2, h3, h4, h5, h6⟩ | ⟨h1, h2⟩
  ·rw [h1]
   have hg' : (setS st.g.length c st').g = st.g ++ c :: new := by
    unfold setS
    simp only
    rw [h4.g_, ho, hog, List.append_assoc, List.set_append_right _ _ (Nat.le_refl _), Nat.sub_self]
    rfl
   have hgl : (setS st.g.length c st').g.length = st'.g.length := by unfold setS; simp
   refine .inl ⟨(st.g.length : Int), setS st.g.length c st', org', c :: new, a :: on, rfl, h2, ⟨h3.ss, by rw [hgl]; exact h3.len, h3.cells, fun i hi => by rw [hgl]; exact h3.rng i hi⟩, ⟨hg', by rw [h4.o_, List.append_assoc]; rfl, by simp [h4.len], fun j d y hd hy => ?_, fun i hi => h4.sub i (by rw [ho, hoc]; simp [hi])⟩, ?_, ?_, .inl rfl, ?_⟩
   ·rw [hgl]
    cases j with
    | zero =>
     obtain rfl := Option.some.inj hd
     obtain rfl := Option.some.inj hy
     exact ⟨h5, fun _ => h4.sub _ (by rw [ho, hoc]; simp)⟩
    | succ j =>
     obtain ⟨k1, k2⟩ := h4.good j d y hd hy
     refine ⟨k1, fun hs => ?_⟩
     have := k2 hs
     rw [hol] at this
     rw [show st.g.length + (j + 1) = st.g.length + 1 + j by omega]
     exact this
   ·rw [hg', List.length_append]; simp only [List.length_cons]; omega
   ·rw [h4.o_, List.append_assoc, ← hlr]
    exact lk_new org a on
   ·rw [hgl]
    omega
  ·rw [h1]
   exact .inr ⟨rfl, by omega⟩
structure Kn (g : List Cell) (w : Wr) : Prop where
 nodup : w.cells.Nodup
 inI : ∀ x ∈ w.cells, InI g x
 sh : ∀ x ∈ w.cells, shared (at_ g x)
theorem Kn.put {g : List Cell} {w : Wr} (h : Kn g w) (b : B) : Kn g (putW w b) := ⟨h.nodup, h.inI, h.sh⟩
theorem Kn.sym {g : List Cell} {w : Wr} (h : Kn g w) (t : B) : Kn g (symW w t) :=
 ⟨by rw [sym_cells]; exact h.nodup, by rw [sym_cells]; exact h.inI, by rw [sym_cells]; exact h.sh⟩
theorem Kn.fold {α : Type} {g : List Cell} {f : Wr → α → Wr} : ∀ (l : List α) (w : Wr), (∀ w, ∀ x ∈ l, Kn g w → Kn g (f w x)) → Kn g w → Kn g (l.foldl f w)
 | [], _, _, h => h
 | x :: l, w, hf, h => Kn.fold l (f w x) (fun w y hy => hf w y (by simp [hy])) (hf w x (by simp) h)
theorem Kn.write {g : List Cell} {K : Nat} (hg : InG g) (hc : ∀ i, InI g i → CellW K (at_ g i)) : ∀ (n : Nat) (w : Wr) (a : Int), InI g a → Kn g w → Kn g (writeF g n w a)
 | 0, _, _, _, h => h
 | n + 1, w, a, ha, h => by
  have c := hc a ha
  unfold writeF
  simp only
  split
  ·exact h.put _
  split
  ·exact h.put _
  split
  ·exact h.put _
  split
  ·exact h.put _
  split
  ·exact h.sym _
  split
  ·exact h.put _
  rename_i k0 k1 k2 k3 k5 hm
  have hk : Kn g { w with cells := w.cells ++ [a] } :=
   ⟨List.nodup_append.2 ⟨h.nodup, by simp, fun x hx y hy => by rw [List.mem_singleton.1 hy]; rintro rfl; exact hm hx⟩, fun x hx => (List.mem_append.1 hx).elim (h.inI x) fun hx => by rw [List.mem_singleton.1 hx]; exact ha,
    fun x hx => (List.mem_append.1 hx).elim (h.sh x) fun hx => by rw [List.mem_singleton.1 hx]; unfold shared; have := c.kind; omega⟩
  have step : ∀ w, ∀ x ∈ (at_ g a).items, Kn g w → Kn g (writeF g n w x) := fun w x hx hw => Kn.write hg hc n w x (outs_in hg ha hx) hw
  split
  ·exact hk.put _
  split
  ·exact Kn.fold _ _ step (hk.put _)
  split
  ·exact Kn.fold _ _ step (hk.put _)
  ·exact Kn.fold _ _ (fun w p hp hw => step _ _ (List.of_mem_zip (a := p.1) (b := p.2) hp).2 (hw.sym _)) ((((hk.put _).sym _).put _))
theorem back_items {g : List Cell} {n : Nat} (hkw : ∀ w x, InI g x → Kn g w → Kn g (writeF g n w x)) (ih : ∀ w x, InI g x → Kn g w → freeN g w.cells < n → Few (writeF g n w x) → Back g w (writeF g n w x) x) : ∀ (l : List Int) (w : Wr), (∀ x ∈ l, InI g x) → Kn g w → freeN g w.cells < n → Few (l.foldl (writeF g n) w) →
  ∃ b, (l.foldl (writeF g n) w).out = w.out ++ b ∧ ∀ (tail : B) (st : St) (org acc : List Int), Rl w st org → st.s = b ++ tail →
   (∃ js st' org' new on, itemsA formS l.length acc st = .ok (acc ++ js, st') ∧ st'.s = tail ∧ Rl (l.foldl (writeF g n) w) st' org' ∧ Ex g st st' org org' new on ∧ (∀ i ∈ js, 0 ≤ i ∧ i < (st'.g.length : Int)) ∧ js.map (lk org') = l ∧ st'.g.length + wgt iT g (l.foldl (writeF g n) w).cells ≤ st.g.length + wgt iT g w.cells + l.length) ∨
   (itemsA formS l.length acc st = .error 4 ∧ 500 < st.g.length + l.length + wgt iT g w.cells)
 | [], w, _, _, _, _ => ⟨[], by simp, fun tail st org acc hR hs => .inl ⟨[], st, org, [], [], by unfold itemsA; simp, hs, hR, Ex.refl g st org st.s st.ss, (fun _ h => by cases h), rfl, Nat.le_refl _⟩⟩
 | x :: l, w, hl, hkn, hn, hF => by
  rw [List.foldl_cons] at hF ⊢
  have hgo := gone_fold (gone_write g n) l (writeF g n w x)
  obtain ⟨b1, e1, h1⟩ := ih w x (hl x (by simp)) hkn hn (hgo.few hF)
  obtain ⟨b2, e2, h2⟩ := back_items hkw ih l (writeF g n w x) (fun y hy => hl y (by simp [hy])) (hkw w x (hl x (by simp)) hkn) (Nat.lt_of_le_of_lt (free_mono (gone_write g n w x).sub) hn) hF
  refine ⟨b1 ++ b2, by rw [e2, e1, List.append_assoc], fun tail st org acc hR hs => ?_⟩
  rw [List.length_cons]
  unfold itemsA
  rcases h1 (b2 ++ tail) st org hR (by rw [hs, List.append_assoc]) with ⟨i, st1, org1, n1, o1, a1, a2, a3, a4, a5, a6, _, a8⟩ | ⟨a1, a2⟩
  ·rw [a1]
   simp only [bnd]
   rcases h2 tail st1 org1 (acc ++ [i]) a3 a2 with ⟨js, st2, org2, n2, o2, c1, c2, c3, c4, c5, c6, c7⟩ | ⟨c1, c2⟩
   ·rw [c1]
    have hx := a4.trans c4 hR.len
    refine .inl ⟨i :: js, st2, org2, n1 ++ n2, o1 ++ o2, by simp, c2, c3, hx, fun j hj => ?_, ?_, by omega⟩
    ·rcases List.mem_cons.1 hj with rfl | hj
     ·have := c4.g_
      have : st2.g.length = st1.g.length + n2.length := by rw [this, List.length_append]
      omega
     ·exact c5 j hj
    ·rw [List.map_cons, c6, c4.o_, lk_app (by rw [a3.len]; exact a5), a6]
   ·rw [c1]
    exact .inr ⟨rfl, by omega⟩
  ·rw [a1]
   exact .inr ⟨rfl, by omega⟩
def pairW (g : List Cell) (n : Nat) (w : Wr) (p : B × Int) : Wr := writeF g n (symW w p.1) p.2
theorem gone_pair (g : List Cell) (n : Nat) (w : Wr) (p : B × Int) : Gone w (pairW g n w p) := (gone_sym w p.1).trans (gone_write g n _ p.2)
theorem Rl.sym {w : Wr} {st : St} {org : List Int} (h : Rl w st org) (t : B) (s : B) : Rl (symW w t) { st with s := s, ss := (symW w t).ss } org :=
 ⟨rfl, h.len, by rw [sym_cells]; exact h.cells, h.rng⟩
theorem Ex.pre {g : List Cell} {st st' : St} {org org' : List Int} {new : List Cell} {on : List Int} {s : B} {ss : List B} (h : Ex g { st with s := s, ss := ss } st' org org' new on) : Ex g st st' org org' new on :=
 ⟨h.g_, h.o_, h.len, h.good, h.sub⟩
theorem back_attrs {g : List Cell} {n : Nat} (hkw : ∀ w x, InI g x → Kn g w → Kn g (writeF g n w x)) (ih : ∀ w x, InI g x → Kn g w → freeN g w.cells < n → Few (writeF g n w x) → Back g w (writeF g n w x) x) : ∀ (l : List (B × Int)) (w : Wr), (∀ p ∈ l, InI g p.2 ∧ Go.Scan.iiB p.1 = true ∧ p.1.length ≤ 40) → Kn g w → freeN g w.cells < n → Few (l.foldl (pairW g n) w) →
  ∃ b, (l.foldl (pairW g n) w).out = w.out ++ b ∧ ∀ (tail : B) (st : St) (org acc : List Int) (ns : List B), Rl w st org → st.s = b ++ tail → (ns ++ l.map Prod.fst).Nodup →
   (∃ js st' org' new on, attrsA formS l.length ns acc st = .ok ((ns ++ l.map Prod.fst, acc ++ js), st') ∧ st'.s = tail ∧ Rl (l.foldl (pairW g n) w) st' org' ∧ Ex g st st' org org' new on ∧ (∀ i ∈ js, 0 ≤ i ∧ i < (st'.g.length : Int)) ∧ js.map (lk org') = l.map Prod.snd ∧ st'.g.length + wgt iT g (l.foldl (pairW g n) w).cells ≤ st.g.length + wgt iT g w.cells + l.length) ∨
   (attrsA formS l.length ns acc st = .error 4 ∧ 500 < st.g.length + l.length + wgt iT g w.cells)
 | [], w, _, _, _, _ => ⟨[], by simp, fun tail st org acc ns hR hs _ => .inl ⟨[], st, org, [], [], by unfold attrsA; simp, hs, hR, Ex.refl g st org st.s st.ss, (fun _ h => by cases h), rfl, Nat.le_refl _⟩⟩
 | p :: l, w, hl, hkn, hn, hF => by
  obtain ⟨t, x⟩ := p
  rw [List.foldl_cons] at hF ⊢
  have hgo := gone_fold (gone_pair g n) l (pairW g n w (t, x))
  obtain ⟨hx, ht1, ht2⟩ := hl (t, x) (by simp)
  have hF1 := hgo.few hF
  have hF0 := (gone_pair g n w (t, x)).few hF1
  obtain ⟨y, b0, e0, hy, h0⟩ := sym_back ht2 hF0.1
  obtain ⟨b1, e1, h1⟩ := ih (symW w t) x hx (hkn.sym t) (by rw [sym_cells]; exact hn) hF1
  obtain ⟨b2, e2, h2⟩ := back_attrs hkw ih l (pairW g n w (t, x)) (fun y hy => hl y (by simp [hy])) (hkw _ x hx (hkn.sym t)) (Nat.lt_of_le_of_lt (free_mono (gone_pair g n w (t, x)).sub) hn) hF
  refine ⟨y :: (b0 ++ (b1 ++ b2)), by rw [e2]; show (writeF g n (symW w t) x).out ++ _ = _; rw [e1, e0]; simp, fun tail st org acc ns hR hs hnd => ?_⟩
  rw [List.length_cons]
  unfold attrsA
  have hs2 : st.s = y :: (b0 ++ (b1 ++ (b2 ++ tail))) := by rw [hs]; simp
  have hnx : nextS st = .ok (y, { st with s := b0 ++ (b1 ++ (b2 ++ tail)) }) := by unfold nextS; rw [hs2]
  have hsy : symS y { st with s := b0 ++ (b1 ++ (b2 ++ tail)) } = .ok (t, { st with s := b1 ++ (b2 ++ tail), ss := (symW w t).ss }) := by
   unfold symS
   simp only
   rw [hR.ss, h0]
  rw [hnx]
  simp only [bnd]
  rw [hsy]
  simp only
  have hfresh : t ∉ ns := fun hm => by
   have := (List.nodup_append.1 hnd).2.2 t hm t (by simp)
   exact this rfl
  rw [if_pos ⟨ht1, hfresh⟩]
  rcases h1 (b2 ++ tail) { st with s := b1 ++ (b2 ++ tail), ss := (symW w t).ss } org (hR.sym t _) rfl with ⟨i, st1, org1, n1, o1, a1, a2, a3, a4, a5, a6, _, a8⟩ | ⟨a1, a2⟩
  ·rw [a1]
   simp only
   rw [sym_cells] at a8
   simp only at a8
   rcases h2 tail st1 org1 (acc ++ [i]) (ns ++ [t]) a3 a2 (by simpa using hnd) with ⟨js, st2, org2, n2, o2, c1, c2, c3, c4, c5, c6, c7⟩ | ⟨c1, c2⟩
   ·rw [c1]
    have hx := a4.pre.trans c4 hR.len
    have hcw : (pairW g n w (t, x)).cells = (writeF g n (symW w t) x).cells := rfl
    rw [hcw] at c7
    refine .inl ⟨i :: js, st2, org2, n1 ++ n2, o1 ++ o2, by simp, c2, c3, hx, fun j hj => ?_, ?_, by omega⟩
    ·rcases List.mem_cons.1 hj with rfl | hj
     ·have := c4.g_
      have : st2.g.length = st1.g.length + n2.length := by rw [this, List.length_append]
      omega
     ·exact c5 j hj
    ·rw [List.map_cons, List.map_cons, c6, c4.o_, lk_app (by rw [a3.len]; exact a5), a6]
   ·rw [c1]
    have hcw : (pairW g n w (t, x)).cells = (writeF g n (symW w t) x).cells := rfl
    rw [hcw] at c2
    exact .inr ⟨rfl, by omega⟩
  ·rw [a1]
   rw [sym_cells] at a2
   simp only at a2
   exact .inr ⟨rfl, by omega⟩
end Go.Marshal
namespace Go.Marshal
open Go.Core
theorem cell_ext {c : Cell} {k n : Int} {t : B} {ns : List B} {l : List Int} (h1 : c.kind = k) (h2 : c.num = n) (h3 : c.text = t) (h4 : c.names = ns) (h5 : c.items = l) : c = ⟨k, n, t, ns, l⟩ := by
 cases c
 simp only at h1 h2 h3 h4 h5
 subst h1 h2 h3 h4 h5
 rfl
theorem cells_few {g : List Cell} (h500 : g.length ≤ 500) {w : Wr} (hN : w.cells.Nodup) (hI : ∀ x ∈ w.cells, InI g x) : w.cells.length ≤ 500 :=
 Nat.le_trans (way_le (n := g.length) hN hI) h500
theorem zip_fst {α β : Type} : ∀ {l : List α} {m : List β}, l.length = m.length → (l.zip m).map Prod.fst = l
 | [], _, _ => rfl
 | x :: l, [], h => by cases h
 | x :: l, y :: m, h => by rw [List.zip_cons_cons, List.map_cons, zip_fst (by simpa using h)]
theorem zip_snd {α β : Type} : ∀ {l : List α} {m : List β}, l.length = m.length → (l.zip m).map Prod.snd = m
 | [], [], _ => rfl
 | [], y :: m, h => by cases h
 | x :: l, [], h => by cases h
 | x :: l, y :: m, h => by rw [List.zip_cons_cons, List.map_cons, zip_snd (by simpa using h)]
theorem good_of {g : List Cell} {org : List Int} {m : Nat} {a k : Int} {t : B} {ns : List B} {js : List Int} (ha : InI g a) (h1 : (at_ g a).kind = k) (h2 : (at_ g a).num = 0) (h3 : (at_ g a).text = t) (h4 : (at_ g a).names = ns) (h5 : js.map (lk org) = (at_ g a).items) (h6 : ∀ i ∈ js, 0 ≤ i ∧ i < (m : Int)) : Good g org m ⟨k, 0, t, ns, js⟩ a :=
 ⟨cell_ext h1 h2 h3 h4 h5.symm, h6, ha⟩
theorem Rl.put {w : Wr} {st : St} {org : List Int} (h : Rl w st org) (b : B) (s : B) : Rl (putW w b) { st with s := s } org := ⟨h.ss, h.len, h.cells, h.rng⟩
theorem back_write {g : List Cell} {K : Nat} (h500 : g.length ≤ 500) (hg : InG g) (hc : ∀ i, InI g i → CellW K (at_ g i)) : ∀ (n : Nat) (w : Wr) (a : Int), InI g a → Kn g w → freeN g w.cells < n → Few (writeF g n w a) → Back g w (writeF g n w a) a
 | 0, w, a, _, _, h, _ => by omega
 | n + 1, w, a, ha, hkn, hn, hF => by
  have hm : maxN = 1000000000000000 := rfl
  have c := hc a ha
  have hFw := (gone_write g (n + 1) w a).few hF
  have hcl := cells_few h500 hkn.nodup hkn.inI
  unfold writeF at hF ⊢
  simp only at hF ⊢
  split
  ·rename_i k
   exact back_leaf (x := 48) (b := []) (c := ⟨0, 0, [], [], []⟩) ha rfl (by decide) (by decide) (by decide) (cell_ext k (c.num0 (by omega)) (c.text0 (by omega) (by omega) (by omega)) (c.leaf (by omega)).2 (c.leaf (by omega)).1) rfl (by unfold shared; simp) rfl fun tail st h1 h2 => by
    unfold innerF
    rw [if_pos rfl]
    cases st
    simp only at h1 h2
    subst h1 h2
    rfl
  split
  ·rename_i _ k
   exact back_leaf (x := 84) (b := []) (c := ⟨1, 0, [], [], []⟩) ha rfl (by decide) (by decide) (by decide) (cell_ext k (c.num0 (by omega)) (c.text0 (by omega) (by omega) (by omega)) (c.leaf (by omega)).2 (c.leaf (by omega)).1) rfl (by unfold shared; simp) rfl fun tail st h1 h2 => by
    unfold innerF
    rw [if_neg (by decide), if_pos rfl]
    cases st
    simp only at h1 h2
    subst h1 h2
    rfl
  split
  ·rename_i _ _ k
   exact back_leaf (x := 70) (b := []) (c := ⟨2, 0, [], [], []⟩) ha rfl (by decide) (by decide) (by decide) (cell_ext k (c.num0 (by omega)) (c.text0 (by omega) (by omega) (by omega)) (c.leaf (by omega)).2 (c.leaf (by omega)).1) rfl (by unfold shared; simp) rfl fun tail st h1 h2 => by
    unfold innerF
    rw [if_neg (by decide), if_neg (by decide), if_pos rfl]
    cases st
    simp only at h1 h2
    subst h1 h2
    rfl
  split
  ·rename_i _ _ _ k
   have hb := c.num k
   have hs : sgn (at_ g a).num ≤ 2 * maxN := by unfold sgn; split <;> omega
   exact back_leaf (x := 105) (b := num (sgn (at_ g a).num)) (c := ⟨3, (at_ g a).num, [], [], []⟩) ha rfl (by decide) (by decide) (by decide) (cell_ext k rfl (c.text0 (by omega) (by omega) (by omega)) (c.leaf (by omega)).2 (c.leaf (by omega)).1) rfl (by unfold shared; simp) rfl fun tail st h1 h2 => by
    unfold innerF
    rw [if_neg (by decide), if_neg (by decide), if_neg (by decide), if_pos rfl, num_ok hs (Nat.le_refl _) h2]
    simp only [bnd]
    rw [unsgn_sgn]
    cases st
    simp only at h1 h2
    subst h1
    rfl
  split
  ·rename_i _ _ _ _ k
   obtain ⟨x, b, e, hx, hs⟩ := sym_back (w := w) (c.sym k) hFw.1
   exact back_leaf (x := x) (b := b) (c := ⟨5, 0, (at_ g a).text, [], []⟩) ha e (by rcases hx with rfl | rfl <;> decide) (by rcases hx with rfl | rfl <;> decide) (by rcases hx with rfl | rfl <;> decide) (cell_ext k (c.num0 (by omega)) rfl (c.leaf (by omega)).2 (c.leaf (by omega)).1) rfl (by unfold shared; simp) (sym_cells _ _) fun tail st h1 h2 => by
    unfold innerF
    rw [if_neg (by rcases hx with rfl | rfl <;> decide), if_neg (by rcases hx with rfl | rfl <;> decide), if_neg (by rcases hx with rfl | rfl <;> decide), if_neg (by rcases hx with rfl | rfl <;> decide), if_neg (by rcases hx with rfl | rfl <;> decide), if_pos hx]
    unfold symS
    rw [h1, h2, hs]
    rfl
  split
  ·rename_i k0 k1 k2 k3 k5 hm2
   have hi := List.idxOf_lt_length_iff.2 hm2
   refine ⟨64 :: num (w.cells.idxOf a), rfl, fun tail st org hR hs => ?_⟩
   have hs2 : st.s = 64 :: (num (w.cells.idxOf a) ++ tail) := hs
   rw [form_named hs2, num_ok (n := w.cells.idxOf a) (by omega) (by omega) rfl]
   simp only [bnd]
   have hlc : st.cells.length = w.cells.length := by rw [← hR.cells, List.length_map]
   obtain ⟨y, hy⟩ : ∃ y, st.cells[w.cells.idxOf a]? = some y := ⟨_, List.getElem?_eq_getElem (by omega)⟩
   rw [hy]
   have hla : lk org y = a := by
    have h1 : w.cells[w.cells.idxOf a]? = some (lk org y) := by rw [← hR.cells, List.getElem?_map, hR.cells, hy]; rfl
    rw [List.getElem?_eq_getElem hi, List.getElem_idxOf hi] at h1
    exact (Option.some.inj h1).symm
   exact .inl ⟨y, { st with s := tail }, org, [], [], rfl, rfl, ⟨hR.ss, hR.len, hR.cells, hR.rng⟩, Ex.refl g st org tail st.ss, hR.rng y (List.mem_of_getElem? hy), hla, .inr (List.mem_of_getElem? hy), by simp only [put_cells]; omega⟩
  rename_i k0 k1 k2 k3 k5 hm2
  rw [if_neg k0, if_neg k1, if_neg k2, if_neg k3, if_neg k5, if_neg hm2] at hF
  have hwg : wgt iT g (w.cells ++ [a]) + (at_ g a).items.length = wgt iT g w.cells := wgt_new (F := iT) ha hm2
  have hlt := free_lt ha hm2 (t := w.cells ++ [a]) (fun x hx => by simp [hx]) (by simp)
  have hl := c.len
  have ht := c.text
  have hk2 : Kn g { w with cells := w.cells ++ [a] } :=
   ⟨List.nodup_append.2 ⟨hkn.nodup, by simp, fun x hx y hy => by rw [List.mem_singleton.1 hy]; rintro rfl; exact hm2 hx⟩, fun x hx => (List.mem_append.1 hx).elim (hkn.inI x) fun hx => by rw [List.mem_singleton.1 hx]; exact ha,
    fun x hx => (List.mem_append.1 hx).elim (hkn.sh x) fun hx => by rw [List.mem_singleton.1 hx]; unfold shared; have := c.kind; omega⟩
  split
  ·rename_i k4
   refine back_open (x := 34) (b := num (at_ g a).text.length ++ (at_ g a).text) rfl (by decide) (by decide) (by decide) fun tail st org hR hs => ?_
   have hit := (c.leaf (by omega)).1
   refine .inl ⟨⟨4, 0, (at_ g a).text, [], []⟩, { st with s := tail }, org, [], [], ?_, rfl, ⟨hR.ss, hR.len, hR.cells, hR.rng⟩, Ex.refl g st org tail st.ss, ⟨?_, fun y hy => (by cases hy), ha⟩, ?_⟩
   ·unfold innerF
    rw [if_neg (by decide), if_neg (by decide), if_neg (by decide), if_neg (by decide), if_pos rfl]
    unfold textS rdT
    rw [hs, List.append_assoc, rd_num (by omega) (by omega)]
    simp only
    rw [if_neg (by omega), if_neg (by rw [List.length_append]; omega)]
    simp only [bnd]
    rw [List.take_left, List.drop_left]
   ·rw [reNum_nil rfl]
    exact cell_ext k4 (c.num0 (by omega)) rfl (c.leaf (by omega)).2 hit
   ·rw [put_cells]
    show st.g.length + wgt iT g (w.cells ++ [a]) ≤ _
    omega
  rename_i k4
  rw [if_neg k4] at hF
  have ih : ∀ w x, InI g x → Kn g w → freeN g w.cells < n → Few (writeF g n w x) → Back g w (writeF g n w x) x := fun w x hx hk h1 h2 => back_write h500 hg hc n w x hx hk h1 h2
  have hkw : ∀ w x, InI g x → Kn g w → Kn g (writeF g n w x) := fun w x hx hk => Kn.write hg hc n w x hx hk
  have hits : ∀ x ∈ (at_ g a).items, InI g x := fun x hx => outs_in hg ha hx
  split
  ·rename_i k6
   rw [if_pos k6] at hF
   obtain ⟨b, e, h⟩ := back_items hkw ih (at_ g a).items (putW { w with cells := w.cells ++ [a] } (91 :: num (at_ g a).items.length)) hits (hk2.put _) (by rw [put_cells]; show freeN g (w.cells ++ [a]) < n; omega) hF
   rw [put_cells] at h
   simp only at h
   refine back_open (x := 91) (b := num (at_ g a).items.length ++ b) (by rw [e]; unfold putW; simp) (by decide) (by decide) (by decide) fun tail st org hR hs => ?_
   unfold innerF
   rw [if_neg (by decide), if_neg (by decide), if_neg (by decide), if_neg (by decide), if_neg (by decide), if_neg (by decide), if_pos rfl, num_ok (n := (at_ g a).items.length) (tail := b ++ tail) (by omega) (by omega) (by rw [hs, List.append_assoc])]
   simp only [bnd]
   rcases h tail { st with s := b ++ tail } org [] (hR.put _ _) rfl with ⟨js, st', org', new, on, c1, c2, c3, c4, c5, c6, c7⟩ | ⟨c1, c2⟩
   ·rw [c1]
    have hgood := good_of (m := st'.g.length) ha k6 (c.num0 (by omega)) (c.text0 (by omega) (by omega) (by omega)) (c.nam0 (by omega)) c6 c5
    exact .inl ⟨⟨6, 0, [], [], js⟩, st', org', new, on, rfl, c2, c3, c4.pre, hgood, by simp only at c7; omega⟩
   ·rw [c1]
    exact .inr ⟨rfl, by simp only at c2; omega⟩
  rename_i k6
  rw [if_neg k6] at hF
  split
  ·rename_i k7
   rw [if_pos k7] at hF
   have hev := c.even k7
   obtain ⟨b, e, h⟩ := back_items hkw ih (at_ g a).items (putW { w with cells := w.cells ++ [a] } (123 :: num ((at_ g a).items.length / 2))) hits (hk2.put _) (by rw [put_cells]; show freeN g (w.cells ++ [a]) < n; omega) hF
   rw [put_cells] at h
   simp only at h
   refine back_open (x := 123) (b := num ((at_ g a).items.length / 2) ++ b) (by rw [e]; unfold putW; simp) (by decide) (by decide) (by decide) fun tail st org hR hs => ?_
   unfold innerF
   rw [if_neg (by decide), if_neg (by decide), if_neg (by decide), if_neg (by decide), if_neg (by decide), if_neg (by decide), if_neg (by decide), if_pos rfl, num_ok (n := (at_ g a).items.length / 2) (tail := b ++ tail) (by omega) (by omega) (by rw [hs, List.append_assoc])]
   simp only [bnd]
   rw [show 2 * ((at_ g a).items.length / 2) = (at_ g a).items.length by omega]
   rcases h tail { st with s := b ++ tail } org [] (hR.put _ _) rfl with ⟨js, st', org', new, on, c1, c2, c3, c4, c5, c6, c7⟩ | ⟨c1, c2⟩
   ·rw [c1]
    have hgood := good_of (m := st'.g.length) ha k7 (c.num0 (by omega)) (c.text0 (by omega) (by omega) (by omega)) (c.nam0 (by omega)) c6 c5
    exact .inl ⟨⟨7, 0, [], [], js⟩, st', org', new, on, rfl, c2, c3, c4.pre, hgood, by simp only at c7; omega⟩
   ·rw [c1]
    exact .inr ⟨rfl, by simp only at c2; omega⟩
  rename_i k7
  rw [if_neg k7] at hF
  have k8 : (at_ g a).kind = 8 := by have := c.kind; omega
  have hlen := c.lens k8
  have hcls := c.cls k8
  have hzl : ((at_ g a).names.zip (at_ g a).items).length = (at_ g a).items.length := by rw [List.length_zip, hlen]; omega
  have hF2 : Few (symW (putW { w with cells := w.cells ++ [a] } [111]) (at_ g a).text) := (gone_put _ _).few ((gone_fold (gone_pair g n) _ _).few hF)
  obtain ⟨x, b1, e1, hx, h1⟩ := sym_back (w := putW { w with cells := w.cells ++ [a] } [111]) hcls.2 hFw.1
  obtain ⟨b, e, h⟩ := back_attrs hkw ih ((at_ g a).names.zip (at_ g a).items) (putW (symW (putW { w with cells := w.cells ++ [a] } [111]) (at_ g a).text) (num (at_ g a).names.length)) (fun p hp => by
   have hz := List.of_mem_zip (a := p.1) (b := p.2) hp
   exact ⟨hits _ hz.2, c.nam _ hz.1⟩) (((hk2.put _).sym _).put _) (by rw [put_cells, sym_cells, put_cells]; show freeN g (w.cells ++ [a]) < n; omega) hF
  rw [put_cells, sym_cells, put_cells] at h
  simp only at h
  show Back g w (((at_ g a).names.zip (at_ g a).items).foldl (pairW g n) (putW (symW (putW { w with cells := w.cells ++ [a] } [111]) (at_ g a).text) (num (at_ g a).names.length))) a
  refine back_open (x := 111) (b := x :: (b1 ++ (num (at_ g a).names.length ++ b))) (by rw [e]; show (symW _ _).out ++ _ ++ _ = _; rw [e1]; show (w.out ++ [111]) ++ _ ++ _ ++ _ = _; simp) (by decide) (by decide) (by decide) fun tail st org hR hs => ?_
  unfold innerF
  rw [if_neg (by decide), if_neg (by decide), if_neg (by decide), if_neg (by decide), if_neg (by decide), if_neg (by decide), if_neg (by decide), if_neg (by decide)]
  have hs2 : st.s = x :: (b1 ++ (num (at_ g a).names.length ++ (b ++ tail))) := by rw [hs]; simp
  have hnx : nextS st = .ok (x, { st with s := b1 ++ (num (at_ g a).names.length ++ (b ++ tail)) }) := by unfold nextS; rw [hs2]
  have hst : st.ss = (putW { w with cells := w.cells ++ [a] } [111]).ss := hR.ss
  have hsy : symS x { st with s := b1 ++ (num (at_ g a).names.length ++ (b ++ tail)) } = .ok ((at_ g a).text, { st with s := num (at_ g a).names.length ++ (b ++ tail), ss := (symW (putW { w with cells := w.cells ++ [a] } [111]) (at_ g a).text).ss }) := by
   unfold symS
   simp only
   rw [hst, h1]
  rw [hnx]
  simp only [bnd]
  rw [hsy]
  simp only
  rw [if_pos hcls.1, num_ok (n := (at_ g a).names.length) (tail := b ++ tail) (by omega) (by omega) rfl]
  simp only
  have hR2 : Rl { w with cells := w.cells ++ [a] } st org := hR
  have hR3 := ((hR2.put [111] st.s).sym (at_ g a).text (b ++ tail)).put (num (at_ g a).names.length) (b ++ tail)
  have hfst := zip_fst hlen
  have hsnd := zip_snd hlen
  rcases h tail _ org [] [] hR3 rfl (by rw [hfst]; exact c.dup) with ⟨js, st', org', new, on, c1, c2, c3, c4, c5, c6, c7⟩ | ⟨c1, c2⟩
  ·rw [hzl, ← hlen] at c1
   rw [hfst] at c1
   rw [c1]
   rw [hsnd] at c6
   rw [hzl] at c7
   have hgood := good_of (m := st'.g.length) ha k8 (c.num0 (by omega)) rfl rfl c6 c5
   exact .inl ⟨⟨8, 0, (at_ g a).text, (at_ g a).names, js⟩, st', org', new, on, rfl, c2, c3, ⟨c4.g_, c4.o_, c4.len, c4.good, c4.sub⟩, hgood, by simp only at c7; omega⟩
  ·rw [hzl, ← hlen] at c1
   rw [c1]
   rw [hzl] at c2
   exact .inr ⟨rfl, by simp only at c2; omega⟩
end Go.Marshal
namespace Go.Marshal
open Go.Core
theorem fold_le {α : Type} {f : Wr → α → Wr} {Q : Wr → Nat} {c : Nat} : ∀ (l : List α) (w : Wr), (∀ w, ∀ x ∈ l, Q (f w x) ≤ Q w + c) → Q (l.foldl f w) ≤ Q w + c * l.length
 | [], w, _ => by simp
 | x :: l, w, h => by
  rw [List.foldl_cons]
  have h1 := h w x (by simp)
  have h2 := fold_le (Q := Q) l (f w x) fun w y hy => h w y (by simp [hy])
  rw [List.length_cons, Nat.mul_add]; omega
def iS (c : Cell) : Nat := c.items.length + c.names.length + 1
theorem sym_ss (w : Wr) (t : B) : (symW w t).ss.length ≤ w.ss.length + 1 := by
 unfold symW
 split
 ·show w.ss.length ≤ _; omega
 ·show (w.ss ++ [t]).length ≤ _; simp
theorem write_ss {g : List Cell} {K : Nat} (hg : InG g) (hc : ∀ i, InI g i → CellW K (at_ g i)) : ∀ (n : Nat) (w : Wr) (a : Int), InI g a → (writeF g n w a).ss.length + wgt iS g (writeF g n w a).cells ≤ w.ss.length + wgt iS g w.cells + 1
 | 0, w, a, _ => by unfold writeF; omega
 | n + 1, w, a, ha => by
  have c := hc a ha
  unfold writeF
  simp only
  split
  ·show w.ss.length + wgt iS g w.cells ≤ _; omega
  split
  ·show w.ss.length + wgt iS g w.cells ≤ _; omega
  split
  ·show w.ss.length + wgt iS g w.cells ≤ _; omega
  split
  ·show w.ss.length + wgt iS g w.cells ≤ _; omega
  split
  ·rw [sym_cells]
   have := sym_ss w (at_ g a).text
   omega
  split
  ·show w.ss.length + wgt iS g w.cells ≤ _; omega
  rename_i k0 k1 k2 k3 k5 hm2
  have hw : wgt iS g (w.cells ++ [a]) + ((at_ g a).items.length + (at_ g a).names.length + 1) = wgt iS g w.cells := wgt_new (F := iS) ha hm2
  have step : ∀ w, ∀ x ∈ (at_ g a).items, (writeF g n w x).ss.length + wgt iS g (writeF g n w x).cells ≤ w.ss.length + wgt iS g w.cells + 1 := fun w x hx => write_ss hg hc n w x (outs_in hg ha hx)
  split
  ·show w.ss.length + wgt iS g (w.cells ++ [a]) ≤ _; omega
  split
  ·refine Nat.le_trans (fold_le (Q := fun w => w.ss.length + wgt iS g w.cells) (c := 1) _ _ step) ?_
   show w.ss.length + wgt iS g (w.cells ++ [a]) + 1 * _ ≤ _; omega
  split
  ·refine Nat.le_trans (fold_le (Q := fun w => w.ss.length + wgt iS g w.cells) (c := 1) _ _ step) ?_
   show w.ss.length + wgt iS g (w.cells ++ [a]) + 1 * _ ≤ _; omega
  ·have k8 : (at_ g a).kind = 8 := by have := c.kind; omega
   have hl := c.lens k8
   refine Nat.le_trans (fold_le (Q := fun w => w.ss.length + wgt iS g w.cells) (c := 2) _ _ fun w p hp => ?_) ?_
   ·have := step (symW w p.1) p.2 (List.of_mem_zip (a := p.1) (b := p.2) hp).2
    rw [sym_cells] at this
    have := sym_ss w p.1
    show (writeF g n (symW w p.1) p.2).ss.length + _ ≤ _
    omega
   ·have := sym_ss (putW { w with cells := w.cells ++ [a] } [111]) (at_ g a).text
    rw [put_cells, sym_cells, put_cells, List.length_zip, hl, Nat.min_self]
    show (symW _ _).ss.length + wgt iS g (w.cells ++ [a]) + 2 * _ ≤ _
    have : (putW { w with cells := w.cells ++ [a] } [111]).ss.length = w.ss.length := rfl
    omega
structure WDone (g : List Cell) (R : Int → Prop) (cs ds : List Int) : Prop where
 sub : ∀ x ∈ cs, x ∈ ds
 new : ∀ x ∈ ds, x ∈ cs ∨ R x ∧ ∀ k ∈ outs g x, shared (at_ g k) → k ∈ ds
theorem WDone.refl (g : List Cell) (R : Int → Prop) (cs : List Int) : WDone g R cs cs := ⟨fun _ h => h, fun _ h => .inl h⟩
theorem WDone.trans {g : List Cell} {R : Int → Prop} {a b c : List Int} (h : WDone g R a b) (k : WDone g R b c) : WDone g R a c :=
 ⟨fun x hx => k.sub x (h.sub x hx), fun x hx => by
  rcases k.new x hx with h1 | h1
  ·rcases h.new x h1 with h2 | h2
   ·exact .inl h2
   ·exact .inr ⟨h2.1, fun y hy hs => k.sub y (h2.2 y hy hs)⟩
  ·exact .inr h1⟩
theorem cellW_of {g : List Cell} {K : Nat} (hv : ValidP g) (hs : ∀ c ∈ g, c.items.length ≤ 2000 ∧ c.text.length + 30 ≤ K) (i : Int) (hi : InI g i) : CellW K (at_ g i) := by
 have hm := at_mem hi
 have hd := hv.2.1 _ hm
 have hp : plainS (at_ g i) = true := by
  have := cell_eq g.length (at_ g i)
  rw [hd, Bool.and_eq_true] at this
  exact this.1
 obtain ⟨hs1, hs2⟩ := hs _ hm
 have htx := cellD_text hd
 have hmx : maxI = (maxN : Int) := rfl
 generalize at_ g i = c at *
 unfold plainS at hp
 simp only [Bool.and_eq_true] at hp
 obtain ⟨⟨⟨⟨hk, ht⟩, hn⟩, hb⟩, hl⟩ := hp
 simp only [decide_eq_true_eq, Bool.or_eq_true] at hk hn hb
 rw [hmx] at hb
 have hic : ∀ s, Go.Scan.icB s = true → s.length ≤ 40 := fun s h => by
  unfold Go.Scan.icB Go.Scan.iwB at h
  simp only [Bool.and_eq_true, decide_eq_true_eq] at h
  exact h.1.1.2
 have hii : ∀ s, Go.Scan.iiB s = true → s.length ≤ 40 := fun s h => by
  unfold Go.Scan.iiB at h
  simp only [Bool.and_eq_true, decide_eq_true_eq] at h
  exact h.2
 refine ⟨hk, fun _ => hb, fun h => hn.resolve_left h, ⟨htx, hs2⟩, fun h => ?_, fun h => ?_, fun h4 h5 h8 => ?_, fun h => ?_, fun h => ?_, fun h => ?_, fun h => ?_, ?_, ?_, hs1⟩
 ·rw [if_neg (by omega), if_pos h] at ht
  simpa using ht
 ·rw [if_neg (by omega), if_neg (by omega), if_pos h] at ht
  exact ⟨ht, hic _ ht⟩
 ·rw [if_neg h4, if_neg h5, if_neg h8] at ht
  simpa using ht
 ·rw [if_pos h] at hl
  simpa using hl
 ·by_cases h5 : c.kind ≤ 5
  ·rw [if_pos h5] at hl
   simp only [Bool.and_eq_true, decide_eq_true_eq] at hl
   exact hl.2
  ·rw [if_neg h5, if_pos h] at hl
   simp only [Bool.and_eq_true, decide_eq_true_eq] at hl
   exact hl.1
 ·rw [if_neg (by omega), if_pos (by omega)] at hl
  simp only [Bool.and_eq_true, Bool.or_eq_true, decide_eq_true_eq] at hl
  exact hl.2.resolve_left (by omega)
 ·rw [if_neg (by omega), if_neg (by omega)] at hl
  simp only [Bool.and_eq_true, decide_eq_true_eq] at hl
  exact hl.1.1
 ·by_cases h8 : c.kind = 8
  ·rw [if_neg (by omega), if_neg (by omega)] at hl
   simp only [Bool.and_eq_true, decide_eq_true_eq] at hl
   exact hl.1.2
  ·by_cases h5 : c.kind ≤ 5
   ·rw [if_pos h5] at hl
    simp only [Bool.and_eq_true, decide_eq_true_eq] at hl
    rw [hl.2]; exact List.nodup_nil
   ·rw [if_neg h5, if_pos h8] at hl
    simp only [Bool.and_eq_true, decide_eq_true_eq] at hl
    rw [hl.1]; exact List.nodup_nil
 ·by_cases h8 : c.kind = 8
  ·rw [if_neg (by omega), if_neg (by omega)] at hl
   simp only [Bool.and_eq_true] at hl
   exact fun t ht => ⟨List.all_eq_true.1 hl.2 t ht, hii t (List.all_eq_true.1 hl.2 t ht)⟩
  ·by_cases h5 : c.kind ≤ 5
   ·rw [if_pos h5] at hl
    simp only [Bool.and_eq_true, decide_eq_true_eq] at hl
    rw [hl.2]; exact fun t ht => by cases ht
   ·rw [if_neg h5, if_pos h8] at hl
    simp only [Bool.and_eq_true, decide_eq_true_eq] at hl
    rw [hl.1]; exact fun t ht => by cases ht
end Go.Marshal
namespace Go.Marshal
def idxR {α : Type} (l : List α) : List (α × Value) := l.zipIdx.map fun p => (p.1, .int .i64 (p.2 : Int))
theorem beq_inst {α : Type} [DecidableEq α] [B : BEq α] [LawfulBEq α] : B = instBEqOfDecidableEq := by
 have h : ∀ a b, @BEq.beq α B a b = decide (a = b) := fun a b => by rw [Bool.eq_iff_iff]; simp
 cases B with
 | mk f => exact congrArg BEq.mk (funext fun a => funext fun b => h a b)
theorem idxR_look0 {α : Type} [DecidableEq α] (l : List α) (x : α) : (idxR l).lookup x = if x ∈ l then some (.int .i64 (l.idxOf x : Int)) else none := by
 unfold idxR
 have key : ∀ (l : List α) (k : Nat), ((l.zipIdx k).map fun p => (p.1, Value.int .i64 (p.2 : Int))).lookup x = if x ∈ l then some (.int .i64 ((l.idxOf x + k : Nat) : Int)) else none := by
  intro l
  induction l with
  | nil => intro k; rfl
  | cons y l ih =>
   intro k
   rw [List.zipIdx_cons, List.map_cons, List.lookup_cons, List.idxOf_cons]
   by_cases h : x = y
   ·subst h
    simp
   ·have h1 : (x == y) = false := by simpa using h
    have h2 : (y == x) = false := by simpa using fun e => h e.symm
    rw [h1, h2, ih (k + 1)]
    simp only [List.mem_cons, h, false_or, cond_false]
    split
    ·congr 2; omega
    ·rfl
 have := key l 0
 simpa using this
theorem idxR_look {α : Type} [D : DecidableEq α] [B : BEq α] [LawfulBEq α] (l : List α) (x : α) : @List.lookup α Value (@instBEqOfDecidableEq α D) x (idxR l) = if x ∈ l then some (.int .i64 (@List.idxOf α B x l : Int)) else none := by
 have e := beq_inst (B := B)
 subst e
 rw [idxR_look0]
theorem upd_new {α : Type} [DecidableEq α] (x : α) (v : Value) : ∀ R : List (α × Value), (∀ p ∈ R, p.1 ≠ x) → Go.AX.upd x v R = R ++ [(x, v)]
 | [], _ => rfl
 | (y, u) :: R, h => by
  unfold Go.AX.upd
  rw [if_neg (fun e => h (y, u) (by simp) e.symm), upd_new x v R fun p hp => h p (by simp [hp])]
  rfl
theorem idxR_put {α : Type} [DecidableEq α] {l : List α} {x : α} (h : x ∉ l) : Go.AX.upd x (.int .i64 (l.length : Int)) (idxR l) = idxR (l ++ [x]) := by
 rw [upd_new]
 ·unfold idxR
  rw [List.zipIdx_append, List.map_append]
  simp
 ·intro p hp e
  unfold idxR at hp
  obtain ⟨q, hq, rfl⟩ := List.mem_map.1 hp
  have := List.mem_zipIdx hq
  exact h (by rw [← e]; simp only [Nat.zero_add, Nat.sub_zero] at this; rw [this.2.2]; exact List.getElem_mem _)
theorem idxR_len {α : Type} (l : List α) : (idxR l).length = l.length := by unfold idxR; simp
end Go.Marshal
namespace Go.Proofs.YtgogonnnojcioaaGreatDoor
open Go.AX Go.RowKit Go.Core Go.Marshal
set_option maxRecDepth 20000
theorem strT : KeyT Tryz.prog 9 (fun k : List UInt8 => .string (bs k)) := strKeyT (by kernel_rfl)
structure WOk (w : Wr) (x : BSt × MapP) : Prop where
 b : x.1.ok w.out.length
 c : KeysAre (fun k : Int => .int .i64 k) x.2.ce.toList (idxR w.cells)
 s : KeysAre (fun k : List UInt8 => .string (bs k)) x.2.se.toList (idxR w.ss)
variable (gv : Value) (F : World → Prop) (mb sb : Nat)
def wOut (w : Wr) : Out → List Ent → Prop := RetG (ι := BSt × MapP) (fun x => WOk w x) (fun _ => .tuple #[]) fun x => wM gv F true w.out x.1 mb sb x.2
theorem text_m (w : Wr) (t : List UInt8) (i : BSt) (q : MapP) (ho : WOk w (i, q)) (hl : w.out.length ≤ 200000000000) (ht : t.length ≤ 100000000000) :
  SpecH Tryz.prog 59 [.c (.lp 0 0), .c (.v (.string (bs t)))] (wM gv F true w.out i mb sb q) (wOut gv F mb sb (putW w (num t.length ++ t))) := by
 refine ownC hm Tryz.func59 (by kernel_rfl) rfl rfl (fun _ _ => wM_ok _ _ _ _ _ _ _ _) (fun _ _ => Nat.le_refl _) ?_
 refine wXD ?_
 refine DrawN.planQ [0, 3, 6] [1, 2, 4, 5, 7] [(8, 0)] (by decide +kernel) ?_
 refine wXD ?_
 have hnl := num_len (n := t.length) (by omega)
 rw [bs_size]
 refine callQ (wide_c t.length (by omega) _) ?_
 refine wXD ?_
 refine Nd.mk (by rw [bs_size, bs_size]; omega) ?_
 rw [bs_app]
 refine wXD ?_
 refine callG (WriteString_m gv F mb sb (q) true (w.out) (num t.length ++ t) i ho.b (by first | omega | (simp; omega))) [0, 1, 2, 3, 4] rfl ⟨rfl, rfl, rfl, rfl, rfl, trivial⟩ rfl fun i2 hi2 => ?_
 refine wXD ?_
 exact ⟨(i2, q), ⟨hi2, ho.c, ho.s⟩, rfl, wkE_refl _, wkE_refl _, wkE_refl _, wkE_refl _, wkE_refl _, trivial⟩
theorem symbol_m (w : Wr) (t : List UInt8) (i : BSt) (q : MapP) (ho : WOk w (i, q)) (hl : w.out.length ≤ 100000000000) (ht : t.length ≤ 100000000000) (hs : w.ss.length ≤ 100000000000) :
  SpecH Tryz.prog 58 [.c (.lp 0 0), .c (.v (.string (bs t)))] (wM gv F true w.out i mb sb q) (wOut gv F mb sb (symW w t)) := by
 refine ownC hm Tryz.func58 (by kernel_rfl) rfl rfl (fun _ _ => wM_ok _ _ _ _ _ _ _ _) (fun _ _ => Nat.le_refl _) ?_
 refine wXD ?_
 refine ReadW.askKey (et := 3) (p := t) (idxR w.ss) rfl (by kernel_rfl) strT rfl rfl rfl rfl (fun w hw => hw.2.2.1) ho.s ?_
 rw [idxR_look]
 by_cases h : t ∈ w.ss
 ·have hi := List.idxOf_lt_length_iff.2 h
  rw [if_pos h, show symW w t = putW w (59 :: num (w.ss.idxOf t)) by unfold symW; rw [if_pos h]]
  generalize w.ss.idxOf t = k at hi ⊢
  refine wXD ?_
  refine DrawN.planQ [0, 3] [1, 2, 4, 5] [(6, 0)] (by decide +kernel) ?_
  refine wXD ?_
  have hnl := num_len (n := k) (by omega)
  refine callQ (wide_c k (by omega) _) ?_
  refine wXD ?_
  refine Nd.mk (by rw [bs_size]; show 1 + _ < _; omega) ?_
  rw [show (⟨#[59]⟩ : ByteArray) = bs [59] from rfl, bs_app]
  refine wXD ?_
  refine callG (WriteString_m gv F mb sb (q) true (w.out) ([59] ++ num k) i ho.b (by first | omega | (simp; omega))) [0, 1, 2, 3, 4] rfl ⟨rfl, rfl, rfl, rfl, rfl, trivial⟩ rfl fun i2 hi2 => ?_
  refine wXD ?_
  exact ⟨(i2, q), ⟨hi2, ho.c, ho.s⟩, rfl, wkE_refl _, wkE_refl _, wkE_refl _, wkE_refl _, wkE_refl _, trivial⟩
 ·rw [if_neg h, show symW w t = ⟨w.out ++ (58 :: (num t.length ++ t)), w.cells, w.ss ++ [t]⟩ by unfold symW; rw [if_neg h], show (⟨w.out ++ (58 :: (num t.length ++ t)), w.cells, w.ss ++ [t]⟩ : Wr) = putW ⟨w.out ++ [58], w.cells, w.ss ++ [t]⟩ (num t.length ++ t) by unfold putW; simp]
  refine wXD ?_
  refine DrawN.planQ [0, 4, 5] [1, 2, 3, 6, 7, 8, 9] [(10, 0)] (by decide +kernel) ?_
  refine wXD ?_
  refine ReadW.mapLen (kt := 9) (et := 3) w.ss.length rfl rfl rfl (by kernel_rfl) rfl (fun w hw => hw.2.2.1) (by rw [← Array.length_toList, ho.s.len, idxR_len]) ?_
  refine wXD ?_
  refine EffW.setMap (et := 3) (p := t) 3 (idxR w.ss) rfl (by kernel_rfl) strT rfl rfl rfl rfl ho.s fun es2 c2 hk2 => ?_
  rw [idxR_put h] at hk2
  refine wXD ?_
  refine callG (WriteString_m gv F mb sb (⟨q.ce, q.cc, es2, c2⟩) true (w.out) ([58]) i ho.b (by first | omega | (simp; omega))) [0, 1, 2, 3, 4] rfl ⟨rfl, rfl, rfl, rfl, rfl, trivial⟩ rfl fun i2 hi2 => ?_
  refine wXD ?_
  refine callG (text_m gv F mb sb ⟨w.out ++ [58], w.cells, w.ss ++ [t]⟩ t i2 ⟨q.ce, q.cc, es2, c2⟩ ⟨hi2, ho.c, hk2⟩ (by show (w.out ++ [58]).length ≤ _; simp; omega) ht) [0, 1, 2, 3, 4] rfl ⟨rfl, rfl, rfl, rfl, rfl, trivial⟩ rfl fun x hx => ?_
  refine wXD ?_
  exact ⟨x, hx, rfl, wkE_refl _, wkE_refl _, wkE_refl _, wkE_refl _, wkE_refl _, trivial⟩
end Go.Proofs.YtgogonnnojcioaaGreatDoor
namespace Go.Marshal
open Go.Core
structure Dmp (g : List Cell) (K : Nat) (k : Int) : Prop where
 valid : ValidP g
 small : ∀ c ∈ g, c.items.length ≤ 2000 ∧ c.names.length ≤ 2000 ∧ c.text.length + 30 ≤ K
 at_ : InI g k
theorem Dmp.cellW {g : List Cell} {K : Nat} {k : Int} (h : Dmp g K k) : ∀ i, InI g i → CellW K (Core.at_ g i) := fun i hi => cellW_of h.valid (fun c hc => ⟨(h.small c hc).1, (h.small c hc).2.2⟩) i hi
def doneW (g : List Cell) (k : Int) : Wr := writeF g (g.length + 1) ⟨headB, [], []⟩ k
theorem Dmp.kn {g : List Cell} {K : Nat} {k : Int} (h : Dmp g K k) : Kn g (doneW g k) :=
 Kn.write (valid_in h.valid) h.cellW _ _ _ h.at_ ⟨List.nodup_nil, (fun _ h => by cases h), fun _ h => by cases h⟩
theorem Dmp.wle {g : List Cell} {K : Nat} {k : Int} (h : Dmp g K k) : wgt iS g [] ≤ g.length * 4001 := wgt_le (fun i hi => by
 have := h.small _ (at_mem hi)
 unfold iS
 omega) []
theorem Dmp.few {g : List Cell} {K : Nat} {k : Int} (h : Dmp g K k) : Few (doneW g k) := by
 have h500 := h.valid.1
 have h1 := write_ss (valid_in h.valid) h.cellW (g.length + 1) ⟨headB, [], []⟩ k h.at_
 have h2 := h.wle
 have h3 := cells_few h500 h.kn.nodup h.kn.inI
 have hm : maxN = 1000000000000000 := rfl
 refine ⟨?_, by omega⟩
 unfold doneW
 have h4 : (⟨headB, [], []⟩ : Wr).ss.length = 0 := rfl
 have h5 : (⟨headB, [], []⟩ : Wr).cells = [] := rfl
 rw [h4, h5] at h1
 omega
end Go.Marshal
namespace Go.Marshal
open Go.Core
structure Tw (g h : List Cell) (org : List Int) (v w : Wr) : Prop where
 out : v.out = w.out
 ss : v.ss = w.ss
 cells : v.cells = w.cells.map (lk org)
 rng : ∀ x ∈ w.cells, InI h x ∧ shared (at_ h x)
theorem Tw.put {g h : List Cell} {org : List Int} {v w : Wr} (t : Tw g h org v w) (b : B) : Tw g h org (putW v b) (putW w b) :=
 ⟨by show v.out ++ b = w.out ++ b; rw [t.out], t.ss, t.cells, t.rng⟩
def writeC (f : Wr → Int → Wr) (c : Cell) (w : Wr) (a : Int) : Wr :=
  if c.kind = 0 then putW w [48]
  else if c.kind = 1 then putW w [84]
  else if c.kind = 2 then putW w [70]
  else if c.kind = 3 then putW w (105 :: num (sgn c.num))
  else if c.kind = 5 then symW w c.text
  else if a ∈ w.cells then putW w (64 :: num (w.cells.idxOf a))
  else if c.kind = 4 then putW { w with cells := w.cells ++ [a] } (34 :: (num c.text.length ++ c.text))
   else if c.kind = 6 then c.items.foldl f (putW { w with cells := w.cells ++ [a] } (91 :: num c.items.length))
   else if c.kind = 7 then c.items.foldl f (putW { w with cells := w.cells ++ [a] } (123 :: num (c.items.length / 2)))
   else (c.names.zip c.items).foldl (fun w p => f (symW w p.1) p.2) (putW (symW (putW { w with cells := w.cells ++ [a] } [111]) c.text) (num c.names.length))
theorem writeF_eq (g : List Cell) (n : Nat) (w : Wr) (a : Int) : writeF g (n + 1) w a = writeC (writeF g n) (at_ g a) w a := rfl
end Go.Marshal
namespace Go.Marshal
open Go.Core
structure Lim (w : Wr) : Prop where
 o : w.out.length ≤ 90000000000
 s : w.ss.length ≤ 90000000000
 c : w.cells.length ≤ 90000000000
theorem Gone.lim {w w' : Wr} (h : Gone w w') (k : Lim w') : Lim w := by
 obtain ⟨b, cs, ts, rfl⟩ := h
 have h1 := k.o
 have h2 := k.s
 have h3 := k.c
 simp only [List.length_append] at h1 h2 h3
 exact ⟨by omega, by omega, by omega⟩
theorem fold_lim {α : Type} {f : Wr → α → Wr} (hf : ∀ w x, Gone w (f w x)) {l : List α} {w : Wr} (h : Lim (l.foldl f w)) (k : Nat) : Lim ((l.take k).foldl f w) := by
 have e : l.foldl f w = (l.drop k).foldl f ((l.take k).foldl f w) := by rw [← List.foldl_append, List.take_append_drop]
 rw [e] at h
 exact (gone_fold hf _ _).lim h
theorem writeC_met {f : Wr → Int → Wr} {c : Cell} {w : Wr} {a : Int} (hk : c.kind = 4 ∨ 6 ≤ c.kind) (hm : a ∈ w.cells) : writeC f c w a = putW w (64 :: num (w.cells.idxOf a)) := by
 unfold writeC
 rw [if_neg (by omega), if_neg (by omega), if_neg (by omega), if_neg (by omega), if_neg (by omega), if_pos hm]
theorem writeC_new {f : Wr → Int → Wr} {c : Cell} {w : Wr} {a : Int} (hk : c.kind = 4 ∨ 6 ≤ c.kind) (hm : a ∉ w.cells) : writeC f c w a = if c.kind = 4 then putW { w with cells := w.cells ++ [a] } (34 :: (num c.text.length ++ c.text))
   else if c.kind = 6 then c.items.foldl f (putW { w with cells := w.cells ++ [a] } (91 :: num c.items.length))
   else if c.kind = 7 then c.items.foldl f (putW { w with cells := w.cells ++ [a] } (123 :: num (c.items.length / 2)))
   else (c.names.zip c.items).foldl (fun w p => f (symW w p.1) p.2) (putW (symW (putW { w with cells := w.cells ++ [a] } [111]) c.text) (num c.names.length)) := by
 unfold writeC
 rw [if_neg (by omega), if_neg (by omega), if_neg (by omega), if_neg (by omega), if_neg (by omega), if_neg hm]
theorem put_out (w : Wr) (b : B) : (putW w b).out = w.out ++ b := rfl
theorem fold_next {α β : Type} {f : β → α → β} {l : List α} {k : Nat} {x : α} {b : β} (h : l[k]? = some x) : (l.take (k + 1)).foldl f b = f ((l.take k).foldl f b) x := by
 rw [List.take_add_one, h, List.foldl_append]
 rfl
end Go.Marshal
namespace Go.Proofs.YtgogonnnojcioaaGreatDoor
open Go.AX Go.RowKit Go.Core Go.Marshal
set_option maxRecDepth 20000
set_option maxHeartbeats 4000000 in
theorem cell_m {a : Option Addr} (ca : Nat) {l : List CellP} (ha : a = none → l = []) (hok : ∀ p ∈ l, CellOk p) (hg : InG (l.map (·.c))) {K : Nat} (hc : ∀ i, InI (l.map (·.c)) i → CellW K (at_ (l.map (·.c)) i)) (hl2 : l.length ≤ 2000) (mb sb : Nat) :
  ∀ (n : Nat) (w : Wr) (i : BSt) (q : MapP) (u : Nat), u < l.length → freeN (l.map (·.c)) w.cells < n → WOk w (i, q) → Lim (writeF (l.map (·.c)) n w (u : Int)) →
  SpecH Tryz.prog 35 [.c (.lp 0 0), .c (.v (.int .i64 (u : Int)))] (wM (.slice a l.length ca) (GrF a l) true w.out i mb sb q) (wOut (.slice a l.length ca) (GrF a l) mb sb (writeF (l.map (·.c)) n w (u : Int))) := by
 intro n
 induction n with
 | zero => intro w i q u _ h; omega
 | succ n ih =>
  intro w i q u hu hn ho hlim
  obtain ⟨p, hp⟩ : ∃ p, l[u]? = some p := ⟨_, List.getElem?_eq_getElem hu⟩
  have hpm := List.mem_of_getElem? hp
  have hpo := hok p hpm
  have hin : InI (l.map (·.c)) (u : Int) := ⟨by omega, by simp; omega⟩
  have hcw := hc (u : Int) hin
  have hat : at_ (l.map (·.c)) (u : Int) = p.c := at_map hp
  rw [hat] at hcw
  have hlw := (gone_write (l.map (·.c)) (n + 1) w (u : Int)).lim hlim
  have hlo := hlw.o
  have hls := hlw.s
  have hlc := hlw.c
  have hsa : a.isSome = true := by
   cases a with
   | none => rw [ha rfl] at hu; exact absurd hu (Nat.not_lt_zero _)
   | some b => rfl
  have houts : ∀ x ∈ p.c.items, InI (l.map (·.c)) x := fun x hx => outs_in hg hin (by unfold outs; rw [hat]; exact hx)
  have hkk := hcw.kind
  have htx := hcw.text
  obtain ⟨⟨kind, num0, text, names, items⟩, na, nc, ia, ic⟩ := p
  simp only at hkk htx hat hcw hpo houts
  obtain ⟨gv, hgv⟩ : ∃ gv, gv = Value.slice a l.length ca := ⟨_, rfl⟩
  obtain ⟨F, hF⟩ : ∃ F, F = GrF a l := ⟨_, rfl⟩
  rw [writeF_eq, hat] at hlim
  obtain rfl | rfl | rfl | rfl | rfl | rfl | rfl | rfl | rfl : kind = 0 ∨ kind = 1 ∨ kind = 2 ∨ kind = 3 ∨ kind = 4 ∨ kind = 5 ∨ kind = 6 ∨ kind = 7 ∨ kind = 8 := by omega
  ·-- 0: the kind, 48: the byte
   rw [writeF_eq, hat]
   refine ownC hm Tryz.func35 (by kernel_rfl) rfl rfl (fun _ _ => wM_ok _ _ _ _ _ _ _ _) (fun _ _ => Nat.le_refl _) ?_
   refine wXD ?_
   refine Nd.mk ⟨hsa, by omega, by omega⟩ ?_
   refine wXD ?_
   refine LdN.agg [.int .i64 0, .int .i64 num0, .string (bs text), .slice na names.length nc, .slice ia items.length ic] rfl (fun w hw => hw.2.2.2.1.1) rfl (fun k hk => by rw [Int.toNat_natCast]; exact grC_get l u k hk hp) ?_
   refine wXD ?_
   refine DrawN.planQ [0, 3] [1, 2, 4, 5] [(6, 0)] (by decide +kernel) ?_
   refine wXD ?_
   refine callG (WriteByte_m (.slice a l.length ca) (GrF a l) mb sb q true w.out 48 i (by omega)) [0, 1, 2, 3, 4] rfl ⟨rfl, rfl, rfl, rfl, rfl, trivial⟩ rfl fun i2 hi2 => ?_
   refine wXD ?_
   exact ⟨(i2, q), ⟨hi2, ho.c, ho.s⟩, rfl, wkE_refl _, wkE_refl _, wkE_refl _, wkE_refl _, wkE_refl _, trivial⟩
  ·-- 1: the kind, 84: the byte
   rw [writeF_eq, hat]
   refine ownC hm Tryz.func35 (by kernel_rfl) rfl rfl (fun _ _ => wM_ok _ _ _ _ _ _ _ _) (fun _ _ => Nat.le_refl _) ?_
   refine wXD ?_
   refine Nd.mk ⟨hsa, by omega, by omega⟩ ?_
   refine wXD ?_
   refine LdN.agg [.int .i64 1, .int .i64 num0, .string (bs text), .slice na names.length nc, .slice ia items.length ic] rfl (fun w hw => hw.2.2.2.1.1) rfl (fun k hk => by rw [Int.toNat_natCast]; exact grC_get l u k hk hp) ?_
   refine wXD ?_
   refine DrawN.planQ [0, 3] [1, 2, 4, 5] [(6, 0)] (by decide +kernel) ?_
   refine wXD ?_
   refine callG (WriteByte_m (.slice a l.length ca) (GrF a l) mb sb q true w.out 84 i (by omega)) [0, 1, 2, 3, 4] rfl ⟨rfl, rfl, rfl, rfl, rfl, trivial⟩ rfl fun i2 hi2 => ?_
   refine wXD ?_
   exact ⟨(i2, q), ⟨hi2, ho.c, ho.s⟩, rfl, wkE_refl _, wkE_refl _, wkE_refl _, wkE_refl _, wkE_refl _, trivial⟩
  ·-- 2: the kind, 70: the byte
   rw [writeF_eq, hat]
   refine ownC hm Tryz.func35 (by kernel_rfl) rfl rfl (fun _ _ => wM_ok _ _ _ _ _ _ _ _) (fun _ _ => Nat.le_refl _) ?_
   refine wXD ?_
   refine Nd.mk ⟨hsa, by omega, by omega⟩ ?_
   refine wXD ?_
   refine LdN.agg [.int .i64 2, .int .i64 num0, .string (bs text), .slice na names.length nc, .slice ia items.length ic] rfl (fun w hw => hw.2.2.2.1.1) rfl (fun k hk => by rw [Int.toNat_natCast]; exact grC_get l u k hk hp) ?_
   refine wXD ?_
   refine DrawN.planQ [0, 3] [1, 2, 4, 5] [(6, 0)] (by decide +kernel) ?_
   refine wXD ?_
   refine callG (WriteByte_m (.slice a l.length ca) (GrF a l) mb sb q true w.out 70 i (by omega)) [0, 1, 2, 3, 4] rfl ⟨rfl, rfl, rfl, rfl, rfl, trivial⟩ rfl fun i2 hi2 => ?_
   refine wXD ?_
   exact ⟨(i2, q), ⟨hi2, ho.c, ho.s⟩, rfl, wkE_refl _, wkE_refl _, wkE_refl _, wkE_refl _, wkE_refl _, trivial⟩
  ·have hnb := hcw.num rfl
   have hmx : maxN = 1000000000000000 := rfl
   simp only at hnb
   rw [writeF_eq, hat]
   refine ownC hm Tryz.func35 (by kernel_rfl) rfl rfl (fun _ _ => wM_ok _ _ _ _ _ _ _ _) (fun _ _ => Nat.le_refl _) ?_
   refine wXD ?_
   refine Nd.mk ⟨hsa, by omega, by omega⟩ ?_
   refine wXD ?_
   refine LdN.agg [.int .i64 3, .int .i64 num0, .string (bs text), .slice na names.length nc, .slice ia items.length ic] rfl (fun w hw => hw.2.2.2.1.1) rfl (fun k hk => by rw [Int.toNat_natCast]; exact grC_get l u k hk hp) ?_
   refine wXD ?_
   refine brd_dec (fun h => ?_) (fun h => ?_)
   ·have hs : ((Marshal.sgn num0 : Nat) : Int) = -2 * num0 - 1 := by unfold Marshal.sgn; rw [if_pos h]; omega
    have hsl : Marshal.sgn num0 ≤ 2000000000000000 := by unfold Marshal.sgn; split <;> omega
    refine wXD ?_
    try rw [show IntKind.i64.wrap (IntKind.i64.wrap (-2 * num0) - 1) = ((Marshal.sgn num0 : Nat) : Int) by first | exact hs.symm | (rw [hs, wrap_i64 (x := -2 * num0) (by omega), wrap_i64 (by omega)])]
    generalize hk : Marshal.sgn num0 = k at hs hsl ⊢
    refine DrawN.planQ [0, 3] [1, 2, 4, 5] [(6, 0)] (by decide +kernel) ?_
    refine wXD ?_
    have hnl := num_len (n := k) (by omega)
    refine callQ (wide_c (k) (by omega) _) ?_
    refine wXD ?_
    refine Nd.mk (by rw [bs_size]; show 1 + _ < _; omega) ?_
    rw [show (⟨#[105]⟩ : ByteArray) = bs [105] from rfl, bs_app]
    refine wXD ?_
    refine callG (WriteString_m (.slice a l.length ca) (GrF a l) mb sb (q) true (w.out) ([105] ++ num k) i ho.b (by first | omega | (simp; omega))) [0, 1, 2, 3, 4] rfl ⟨rfl, rfl, rfl, rfl, rfl, trivial⟩ rfl fun i2 hi2 => ?_
    refine wXD ?_
    have he : writeC (writeF (l.map (·.c)) n) ⟨3, num0, text, names, items⟩ w (u : Int) = putW w (105 :: num k) := by rw [← hk]; rfl
    rw [he]
    exact ⟨(i2, q), ⟨hi2, ho.c, ho.s⟩, rfl, wkE_refl _, wkE_refl _, wkE_refl _, wkE_refl _, wkE_refl _, trivial⟩
   ·have hs : ((Marshal.sgn num0 : Nat) : Int) = 2 * num0 := by unfold Marshal.sgn; rw [if_neg h]; omega
    have hsl : Marshal.sgn num0 ≤ 2000000000000000 := by unfold Marshal.sgn; split <;> omega
    refine wXD ?_
    try rw [show 2 * num0 = ((Marshal.sgn num0 : Nat) : Int) by first | exact hs.symm | (rw [hs, wrap_i64 (x := -2 * num0) (by omega), wrap_i64 (by omega)])]
    generalize hk : Marshal.sgn num0 = k at hs hsl ⊢
    refine DrawN.planQ [0, 3] [1, 2, 4, 5] [(6, 0)] (by decide +kernel) ?_
    refine wXD ?_
    have hnl := num_len (n := k) (by omega)
    refine callQ (wide_c (k) (by omega) _) ?_
    refine wXD ?_
    refine Nd.mk (by rw [bs_size]; show 1 + _ < _; omega) ?_
    rw [show (⟨#[105]⟩ : ByteArray) = bs [105] from rfl, bs_app]
    refine wXD ?_
    refine callG (WriteString_m (.slice a l.length ca) (GrF a l) mb sb (q) true (w.out) ([105] ++ num k) i ho.b (by first | omega | (simp; omega))) [0, 1, 2, 3, 4] rfl ⟨rfl, rfl, rfl, rfl, rfl, trivial⟩ rfl fun i2 hi2 => ?_
    refine wXD ?_
    have he : writeC (writeF (l.map (·.c)) n) ⟨3, num0, text, names, items⟩ w (u : Int) = putW w (105 :: num k) := by rw [← hk]; rfl
    rw [he]
    exact ⟨(i2, q), ⟨hi2, ho.c, ho.s⟩, rfl, wkE_refl _, wkE_refl _, wkE_refl _, wkE_refl _, wkE_refl _, trivial⟩
  ·-- 4: the kind
   rw [writeF_eq, hat]
   refine ownC hm Tryz.func35 (by kernel_rfl) rfl rfl (fun _ _ => wM_ok _ _ _ _ _ _ _ _) (fun _ _ => Nat.le_refl _) ?_
   refine wXD ?_
   refine Nd.mk ⟨hsa, by omega, by omega⟩ ?_
   refine wXD ?_
   refine LdN.agg [.int .i64 4, .int .i64 num0, .string (bs text), .slice na names.length nc, .slice ia items.length ic] rfl (fun w hw => hw.2.2.2.1.1) rfl (fun k hk => by rw [Int.toNat_natCast]; exact grC_get l u k hk hp) ?_
   refine wXD ?_
   refine ReadW.askKey (et := 3) (p := (u : Int)) (idxR w.cells) rfl (by kernel_rfl) intT rfl rfl rfl rfl (fun w hw => hw.2.1) ho.c ?_
   rw [idxR_look]
   by_cases hm : (u : Int) ∈ w.cells
   ·have hi := List.idxOf_lt_length_iff.2 hm
    rw [if_pos hm, show writeC (writeF (l.map (·.c)) n) ⟨4, num0, text, names, items⟩ w (u : Int) = putW w (64 :: num (w.cells.idxOf (u : Int))) from writeC_met (by simp) hm]
    generalize w.cells.idxOf (u : Int) = k at hi ⊢
    refine wXD ?_
    refine DrawN.planQ [0, 3] [1, 2, 4, 5] [(6, 0)] (by decide +kernel) ?_
    refine wXD ?_
    have hnl := num_len (n := k) (by omega)
    refine callQ (wide_c (k) (by omega) _) ?_
    refine wXD ?_
    refine Nd.mk (by rw [bs_size]; show 1 + _ < _; omega) ?_
    rw [show (⟨#[64]⟩ : ByteArray) = bs [64] from rfl, bs_app]
    refine wXD ?_
    refine callG (WriteString_m (.slice a l.length ca) (GrF a l) mb sb (q) true (w.out) ([64] ++ num k) i ho.b (by first | omega | (simp; omega))) [0, 1, 2, 3, 4] rfl ⟨rfl, rfl, rfl, rfl, rfl, trivial⟩ rfl fun i2 hi2 => ?_
    refine wXD ?_
    exact ⟨(i2, q), ⟨hi2, ho.c, ho.s⟩, rfl, wkE_refl _, wkE_refl _, wkE_refl _, wkE_refl _, wkE_refl _, trivial⟩
   rw [if_neg hm]
   refine wXD ?_
   refine DrawN.planQ [0, 4, 5] [1, 2, 3, 6, 7, 8, 9] [(10, 0)] (by decide +kernel) ?_
   refine wXD ?_
   refine ReadW.mapLen (kt := 3) (et := 3) w.cells.length rfl rfl rfl (by kernel_rfl) rfl (fun w hw => hw.2.1) (by rw [← Array.length_toList, ho.c.len, idxR_len]) ?_
   refine wXD ?_
   refine EffW.setMap (et := 3) (p := (u : Int)) 2 (idxR w.cells) rfl (by kernel_rfl) intT rfl rfl rfl rfl ho.c fun es2 c2 hk2 => ?_
   rw [idxR_put hm] at hk2
   refine wXD ?_
   obtain ⟨w1, hw1⟩ : ∃ w1 : Wr, w1 = { w with cells := w.cells ++ [(u : Int)] } := ⟨_, rfl⟩
   have ho1 : WOk w1 (i, ⟨es2, c2, q.se, q.sc⟩) := by rw [hw1]; exact ⟨ho.b, hk2, ho.s⟩
   have ho1o : w1.out = w.out := by rw [hw1]
   have hlt := free_lt hin hm (t := w.cells ++ [(u : Int)]) (fun x hx => by simp [hx]) (by simp)
   have he : writeC (writeF (l.map (·.c)) n) ⟨4, num0, text, names, items⟩ w (u : Int) = putW (putW w1 [34]) (num text.length ++ text) := by
    rw [writeC_new (by simp) hm, if_pos rfl, hw1]
    unfold putW
    simp
   rw [he, ← ho1o]
   rw [← ho1o] at hlo
   refine callG (WriteString_m (.slice a l.length ca) (GrF a l) mb sb (⟨es2, c2, q.se, q.sc⟩) true (w1.out) ([34]) i ho1.b (by first | omega | (simp; omega))) [0, 1, 2, 3, 4] rfl ⟨rfl, rfl, rfl, rfl, rfl, trivial⟩ rfl fun i2 hi2 => ?_
   refine wXD ?_
   refine callG (text_m (.slice a l.length ca) (GrF a l) mb sb (putW w1 [34]) text i2 ⟨es2, c2, q.se, q.sc⟩ ⟨hi2, ho1.c, ho1.s⟩ (by rw [put_len]; simp; omega) (by omega)) [0, 1, 2, 3, 4] rfl ⟨rfl, rfl, rfl, rfl, rfl, trivial⟩ rfl fun x hx => ?_
   refine wXD ?_
   exact ⟨x, hx, rfl, wkE_refl _, wkE_refl _, wkE_refl _, wkE_refl _, wkE_refl _, trivial⟩
  ·have hsy := hcw.sym rfl
   simp only at hsy
   rw [writeF_eq, hat]
   refine ownC hm Tryz.func35 (by kernel_rfl) rfl rfl (fun _ _ => wM_ok _ _ _ _ _ _ _ _) (fun _ _ => Nat.le_refl _) ?_
   refine wXD ?_
   refine Nd.mk ⟨hsa, by omega, by omega⟩ ?_
   refine wXD ?_
   refine LdN.agg [.int .i64 5, .int .i64 num0, .string (bs text), .slice na names.length nc, .slice ia items.length ic] rfl (fun w hw => hw.2.2.2.1.1) rfl (fun k hk => by rw [Int.toNat_natCast]; exact grC_get l u k hk hp) ?_
   refine wXD ?_
   have he : writeC (writeF (l.map (·.c)) n) ⟨5, num0, text, names, items⟩ w (u : Int) = symW w text := rfl
   rw [he]
   refine callG (symbol_m (.slice a l.length ca) (GrF a l) mb sb w text i q ho (by omega) (by omega) (by omega)) [0, 1, 2, 3, 4] rfl ⟨rfl, rfl, rfl, rfl, rfl, trivial⟩ rfl fun x hx => ?_
   refine wXD ?_
   exact ⟨x, hx, rfl, wkE_refl _, wkE_refl _, wkE_refl _, wkE_refl _, wkE_refl _, trivial⟩
  ·-- 6: the kind
   rw [writeF_eq, hat]
   refine ownC hm Tryz.func35 (by kernel_rfl) rfl rfl (fun _ _ => wM_ok _ _ _ _ _ _ _ _) (fun _ _ => Nat.le_refl _) ?_
   refine wXD ?_
   refine Nd.mk ⟨hsa, by omega, by omega⟩ ?_
   refine wXD ?_
   refine LdN.agg [.int .i64 6, .int .i64 num0, .string (bs text), .slice na names.length nc, .slice ia items.length ic] rfl (fun w hw => hw.2.2.2.1.1) rfl (fun k hk => by rw [Int.toNat_natCast]; exact grC_get l u k hk hp) ?_
   refine wXD ?_
   refine ReadW.askKey (et := 3) (p := (u : Int)) (idxR w.cells) rfl (by kernel_rfl) intT rfl rfl rfl rfl (fun w hw => hw.2.1) ho.c ?_
   rw [idxR_look]
   by_cases hm : (u : Int) ∈ w.cells
   ·have hi := List.idxOf_lt_length_iff.2 hm
    rw [if_pos hm, show writeC (writeF (l.map (·.c)) n) ⟨6, num0, text, names, items⟩ w (u : Int) = putW w (64 :: num (w.cells.idxOf (u : Int))) from writeC_met (by simp) hm]
    generalize w.cells.idxOf (u : Int) = k at hi ⊢
    refine wXD ?_
    refine DrawN.planQ [0, 3] [1, 2, 4, 5] [(6, 0)] (by decide +kernel) ?_
    refine wXD ?_
    have hnl := num_len (n := k) (by omega)
    refine callQ (wide_c (k) (by omega) _) ?_
    refine wXD ?_
    refine Nd.mk (by rw [bs_size]; show 1 + _ < _; omega) ?_
    rw [show (⟨#[64]⟩ : ByteArray) = bs [64] from rfl, bs_app]
    refine wXD ?_
    refine callG (WriteString_m (.slice a l.length ca) (GrF a l) mb sb (q) true (w.out) ([64] ++ num k) i ho.b (by first | omega | (simp; omega))) [0, 1, 2, 3, 4] rfl ⟨rfl, rfl, rfl, rfl, rfl, trivial⟩ rfl fun i2 hi2 => ?_
    refine wXD ?_
    exact ⟨(i2, q), ⟨hi2, ho.c, ho.s⟩, rfl, wkE_refl _, wkE_refl _, wkE_refl _, wkE_refl _, wkE_refl _, trivial⟩
   rw [if_neg hm]
   refine wXD ?_
   refine DrawN.planQ [0, 4, 5] [1, 2, 3, 6, 7, 8, 9] [(10, 0)] (by decide +kernel) ?_
   refine wXD ?_
   refine ReadW.mapLen (kt := 3) (et := 3) w.cells.length rfl rfl rfl (by kernel_rfl) rfl (fun w hw => hw.2.1) (by rw [← Array.length_toList, ho.c.len, idxR_len]) ?_
   refine wXD ?_
   refine EffW.setMap (et := 3) (p := (u : Int)) 2 (idxR w.cells) rfl (by kernel_rfl) intT rfl rfl rfl rfl ho.c fun es2 c2 hk2 => ?_
   rw [idxR_put hm] at hk2
   refine wXD ?_
   obtain ⟨w1, hw1⟩ : ∃ w1 : Wr, w1 = { w with cells := w.cells ++ [(u : Int)] } := ⟨_, rfl⟩
   have ho1 : WOk w1 (i, ⟨es2, c2, q.se, q.sc⟩) := by rw [hw1]; exact ⟨ho.b, hk2, ho.s⟩
   have ho1o : w1.out = w.out := by rw [hw1]
   have hlt := free_lt hin hm (t := w.cells ++ [(u : Int)]) (fun x hx => by simp [hx]) (by simp)
   have hlen := hcw.len
   simp only at hlen
   refine DrawN.planQ [0, 3] [1, 2, 4, 5, 6, 7] [(8, 0)] (by decide +kernel) ?_
   refine wXD ?_
   have hnl := num_len (n := items.length) (by omega)
   refine callQ (wide_c (items.length) (by omega) _) ?_
   refine wXD ?_
   refine Nd.mk (by rw [bs_size]; show 1 + _ < _; omega) ?_
   rw [show (⟨#[91]⟩ : ByteArray) = bs [91] from rfl, bs_app]
   refine wXD ?_
   have he : writeC (writeF (l.map (·.c)) n) ⟨6, num0, text, names, items⟩ w (u : Int) = items.foldl (writeF (l.map (·.c)) n) (putW w1 (91 :: num items.length)) := by
    rw [writeC_new (by simp) hm, if_neg (by simp), if_pos rfl, hw1]
   refine callG (WriteString_m (.slice a l.length ca) (GrF a l) mb sb (⟨es2, c2, q.se, q.sc⟩) true (w.out) ([91] ++ num items.length) i ho.b (by first | omega | (simp; omega))) [0, 1, 2, 3, 4] rfl ⟨rfl, rfl, rfl, rfl, rfl, trivial⟩ rfl fun i2 hi2 => ?_
   refine wXD ?_
   obtain ⟨w2, hw2⟩ : ∃ w2 : Wr, w2 = putW w1 (91 :: num items.length) := ⟨_, rfl⟩
   have ho2 : WOk w2 (i2, ⟨es2, c2, q.se, q.sc⟩) := by rw [hw2]; exact ⟨by rw [put_out, ho1o]; exact hi2, ho1.c, ho1.s⟩
   rw [he, ← hw2]
   have hl2 : Lim (items.foldl (writeF (l.map (·.c)) n) w2) := by rw [hw2, ← he]; exact hlim
   have hfr : ∀ k, freeN (l.map (·.c)) ((items.take k).foldl (writeF (l.map (·.c)) n) w2).cells < n := fun k => by
    have h1 := free_mono (g := l.map (·.c)) (gone_fold (gone_write (l.map (·.c)) n) (items.take k) w2).sub
    have h2 : w2.cells = w.cells ++ [(u : Int)] := by rw [hw2, put_cells, hw1]
    rw [h2] at h1
    omega
   refine spec_of_exec Go.Proofs.YtgogonnnojcioaaGreatDoor.hm Tryz.func60 (by kernel_rfl) rfl rfl ?_
   refine wXD ?_
   refine LoopN.intro (Nat × BSt × MapP) (fun ⟨k, x⟩ => k ≤ items.length ∧ WOk ((items.take k).foldl (writeF (l.map (·.c)) n) w2) x)
    (fun ⟨k, _⟩ => mkS Tryz.f60.ntmps 0 [(0, .c (.lp 0 0)), (6, .c (.v (.slice ia items.length ic))), (7, .c (.v (.int .i64 (items.length : Int)))), (8, .c (.v (.int .i64 (k : Int))))])
    (fun ⟨k, x⟩ => wM (.slice a l.length ca) (GrF a l) true ((items.take k).foldl (writeF (l.map (·.c)) n) w2).out x.1 mb sb x.2 ++ [.blk 57 [.v (.int .i64 6), .v (.int .i64 num0), .v (.string (bs text)), .v (.slice na names.length nc), .v (.slice ia items.length ic)]]) (fun ⟨k, _⟩ => items.length - k) [] rfl (fun _ => rfl) (fun _ => rfl) (fun _ _ => okHB_eq rfl) ?_ ?_
   ·refine ⟨(0, i2, ⟨es2, c2, q.se, q.sc⟩), ⟨Nat.zero_le _, ho2⟩, ?_, ?_⟩
    ·exact wKK
    ·show wkH _ (wM _ _ true w2.out i2 mb sb ⟨es2, c2, q.se, q.sc⟩ ++ _)
     rw [hw2, put_out, ho1o]
     exact ⟨wkE_refl _, wkE_refl _, wkE_refl _, wkE_refl _, wkE_refl _, wkE_refl _, trivial⟩
   rintro ⟨k, x0⟩ ⟨hk, hx0⟩
   obtain ⟨i3, q3⟩ := x0
   refine wXD ?_
   refine brd_dec (fun h1 => ?_) (fun h1 => ?_)
   ·-- an item: what is known of it
    obtain ⟨x, hx⟩ : ∃ z, items[k]? = some z := ⟨_, List.getElem?_eq_getElem (by omega)⟩
    have hxi := houts x (List.mem_of_getElem? hx)
    obtain ⟨xn, rfl⟩ : ∃ xn : Nat, x = (xn : Int) := ⟨x.toNat, by have := hxi.1; omega⟩
    have hxl : xn < l.length := by have := hxi.2; simp only [List.length_map] at this; omega
    have hxa : ia.isSome = true := by
     cases ia with
     | none => have h0 : items = [] := hpo.ia rfl; rw [h0] at hx; cases hx
     | some b => rfl
    refine wXD ?_
    refine Nd.mk ⟨hxa, by omega, by omega⟩ ?_
    refine wXD ?_
    refine LdN.one (.int .i64 (xn : Int)) rfl (fun w hw => (hw.2.2.2.1.2 _ hpm).2) (by rw [Int.toNat_natCast]; show (iC items)[k * 1]? = _; rw [Nat.mul_one]; exact iC_get hx) ?_
    refine wXD ?_
    have hnx := fold_next (f := writeF (l.map (·.c)) n) (b := w2) hx
    refine callG (ih ((items.take k).foldl (writeF (l.map (·.c)) n) w2) i3 q3 xn hxl (hfr k) hx0 (by rw [← hnx]; exact fold_lim (gone_write _ n) hl2 (k + 1))) [0, 1, 2, 3, 4] rfl ⟨rfl, rfl, rfl, rfl, rfl, trivial⟩ rfl fun y hy => ?_
    rw [← hnx] at hy ⊢
    refine wXD ?_
    refine ⟨(k + 1, y), ⟨by omega, hy⟩, by show items.length - (k + 1) < items.length - k; omega, ?_, wkE_refl _, wkE_refl _, wkE_refl _, wkE_refl _, wkE_refl _, wkE_refl _, trivial⟩
    exact wKK
   ·obtain rfl : k = items.length := by omega
    rw [List.take_length] at hx0 ⊢
    refine wXD ?_
    exact ⟨(i3, q3), hx0, rfl, wkE_refl _, wkE_refl _, wkE_refl _, wkE_refl _, wkE_refl _, trivial⟩
  ·-- 7: the kind
   rw [writeF_eq, hat]
   refine ownC hm Tryz.func35 (by kernel_rfl) rfl rfl (fun _ _ => wM_ok _ _ _ _ _ _ _ _) (fun _ _ => Nat.le_refl _) ?_
   refine wXD ?_
   refine Nd.mk ⟨hsa, by omega, by omega⟩ ?_
   refine wXD ?_
   refine LdN.agg [.int .i64 7, .int .i64 num0, .string (bs text), .slice na names.length nc, .slice ia items.length ic] rfl (fun w hw => hw.2.2.2.1.1) rfl (fun k hk => by rw [Int.toNat_natCast]; exact grC_get l u k hk hp) ?_
   refine wXD ?_
   refine ReadW.askKey (et := 3) (p := (u : Int)) (idxR w.cells) rfl (by kernel_rfl) intT rfl rfl rfl rfl (fun w hw => hw.2.1) ho.c ?_
   rw [idxR_look]
   by_cases hm : (u : Int) ∈ w.cells
   ·have hi := List.idxOf_lt_length_iff.2 hm
    rw [if_pos hm, show writeC (writeF (l.map (·.c)) n) ⟨7, num0, text, names, items⟩ w (u : Int) = putW w (64 :: num (w.cells.idxOf (u : Int))) from writeC_met (by simp) hm]
    generalize w.cells.idxOf (u : Int) = k at hi ⊢
    refine wXD ?_
    refine DrawN.planQ [0, 3] [1, 2, 4, 5] [(6, 0)] (by decide +kernel) ?_
    refine wXD ?_
    have hnl := num_len (n := k) (by omega)
    refine callQ (wide_c (k) (by omega) _) ?_
    refine wXD ?_
    refine Nd.mk (by rw [bs_size]; show 1 + _ < _; omega) ?_
    rw [show (⟨#[64]⟩ : ByteArray) = bs [64] from rfl, bs_app]
    refine wXD ?_
    refine callG (WriteString_m (.slice a l.length ca) (GrF a l) mb sb (q) true (w.out) ([64] ++ num k) i ho.b (by first | omega | (simp; omega))) [0, 1, 2, 3, 4] rfl ⟨rfl, rfl, rfl, rfl, rfl, trivial⟩ rfl fun i2 hi2 => ?_
    refine wXD ?_
    exact ⟨(i2, q), ⟨hi2, ho.c, ho.s⟩, rfl, wkE_refl _, wkE_refl _, wkE_refl _, wkE_refl _, wkE_refl _, trivial⟩
   rw [if_neg hm]
   refine wXD ?_
   refine DrawN.planQ [0, 4, 5] [1, 2, 3, 6, 7, 8, 9] [(10, 0)] (by decide +kernel) ?_
   refine wXD ?_
   refine ReadW.mapLen (kt := 3) (et := 3) w.cells.length rfl rfl rfl (by kernel_rfl) rfl (fun w hw => hw.2.1) (by rw [← Array.length_toList, ho.c.len, idxR_len]) ?_
   refine wXD ?_
   refine EffW.setMap (et := 3) (p := (u : Int)) 2 (idxR w.cells) rfl (by kernel_rfl) intT rfl rfl rfl rfl ho.c fun es2 c2 hk2 => ?_
   rw [idxR_put hm] at hk2
   refine wXD ?_
   obtain ⟨w1, hw1⟩ : ∃ w1 : Wr, w1 = { w with cells := w.cells ++ [(u : Int)] } := ⟨_, rfl⟩
   have ho1 : WOk w1 (i, ⟨es2, c2, q.se, q.sc⟩) := by rw [hw1]; exact ⟨ho.b, hk2, ho.s⟩
   have ho1o : w1.out = w.out := by rw [hw1]
   have hlt := free_lt hin hm (t := w.cells ++ [(u : Int)]) (fun x hx => by simp [hx]) (by simp)
   have hlen := hcw.len
   simp only at hlen
   refine DrawN.planQ [0, 3] [1, 2, 4, 5, 6, 7, 8] [(9, 0)] (by decide +kernel) ?_
   refine wXD ?_
   rw [show ((items.length : Int)).tdiv 2 = ((items.length / 2 : Nat) : Int) from (Int.ofNat_tdiv _ _).symm]
   try rw [wrap_i64 (x := ((items.length / 2 : Nat) : Int)) (by omega)]
   have hnl := num_len (n := items.length / 2) (by omega)
   refine callQ (wide_c (items.length / 2) (by omega) _) ?_
   refine wXD ?_
   refine Nd.mk (by rw [bs_size]; show 1 + _ < _; omega) ?_
   rw [show (⟨#[123]⟩ : ByteArray) = bs [123] from rfl, bs_app]
   refine wXD ?_
   have he : writeC (writeF (l.map (·.c)) n) ⟨7, num0, text, names, items⟩ w (u : Int) = items.foldl (writeF (l.map (·.c)) n) (putW w1 (123 :: num (items.length / 2))) := by
    rw [writeC_new (by simp) hm, if_neg (by simp), if_neg (by simp), if_pos rfl, hw1]
   refine callG (WriteString_m (.slice a l.length ca) (GrF a l) mb sb (⟨es2, c2, q.se, q.sc⟩) true (w.out) ([123] ++ num (items.length / 2)) i ho.b (by first | omega | (simp; omega))) [0, 1, 2, 3, 4] rfl ⟨rfl, rfl, rfl, rfl, rfl, trivial⟩ rfl fun i2 hi2 => ?_
   refine wXD ?_
   obtain ⟨w2, hw2⟩ : ∃ w2 : Wr, w2 = putW w1 (123 :: num (items.length / 2)) := ⟨_, rfl⟩
   have ho2 : WOk w2 (i2, ⟨es2, c2, q.se, q.sc⟩) := by rw [hw2]; exact ⟨by rw [put_out, ho1o]; exact hi2, ho1.c, ho1.s⟩
   rw [he, ← hw2]
   have hl2 : Lim (items.foldl (writeF (l.map (·.c)) n) w2) := by rw [hw2, ← he]; exact hlim
   have hfr : ∀ k, freeN (l.map (·.c)) ((items.take k).foldl (writeF (l.map (·.c)) n) w2).cells < n := fun k => by
    have h1 := free_mono (g := l.map (·.c)) (gone_fold (gone_write (l.map (·.c)) n) (items.take k) w2).sub
    have h2 : w2.cells = w.cells ++ [(u : Int)] := by rw [hw2, put_cells, hw1]
    rw [h2] at h1
    omega
   refine spec_of_exec Go.Proofs.YtgogonnnojcioaaGreatDoor.hm Tryz.func60 (by kernel_rfl) rfl rfl ?_
   refine wXD ?_
   refine LoopN.intro (Nat × BSt × MapP) (fun ⟨k, x⟩ => k ≤ items.length ∧ WOk ((items.take k).foldl (writeF (l.map (·.c)) n) w2) x)
    (fun ⟨k, _⟩ => mkS Tryz.f60.ntmps 0 [(0, .c (.lp 0 0)), (6, .c (.v (.slice ia items.length ic))), (7, .c (.v (.int .i64 (items.length : Int)))), (8, .c (.v (.int .i64 (k : Int))))])
    (fun ⟨k, x⟩ => wM (.slice a l.length ca) (GrF a l) true ((items.take k).foldl (writeF (l.map (·.c)) n) w2).out x.1 mb sb x.2 ++ [.blk 57 [.v (.int .i64 7), .v (.int .i64 num0), .v (.string (bs text)), .v (.slice na names.length nc), .v (.slice ia items.length ic)]]) (fun ⟨k, _⟩ => items.length - k) [] rfl (fun _ => rfl) (fun _ => rfl) (fun _ _ => okHB_eq rfl) ?_ ?_
   ·refine ⟨(0, i2, ⟨es2, c2, q.se, q.sc⟩), ⟨Nat.zero_le _, ho2⟩, ?_, ?_⟩
    ·exact wKK
    ·show wkH _ (wM _ _ true w2.out i2 mb sb ⟨es2, c2, q.se, q.sc⟩ ++ _)
     rw [hw2, put_out, ho1o]
     exact ⟨wkE_refl _, wkE_refl _, wkE_refl _, wkE_refl _, wkE_refl _, wkE_refl _, trivial⟩
   rintro ⟨k, x0⟩ ⟨hk, hx0⟩
   obtain ⟨i3, q3⟩ := x0
   refine wXD ?_
   refine brd_dec (fun h1 => ?_) (fun h1 => ?_)
   ·-- an item: what is known of it
    obtain ⟨x, hx⟩ : ∃ z, items[k]? = some z := ⟨_, List.getElem?_eq_getElem (by omega)⟩
    have hxi := houts x (List.mem_of_getElem? hx)
    obtain ⟨xn, rfl⟩ : ∃ xn : Nat, x = (xn : Int) := ⟨x.toNat, by have := hxi.1; omega⟩
    have hxl : xn < l.length := by have := hxi.2; simp only [List.length_map] at this; omega
    have hxa : ia.isSome = true := by
     cases ia with
     | none => have h0 : items = [] := hpo.ia rfl; rw [h0] at hx; cases hx
     | some b => rfl
    refine wXD ?_
    refine Nd.mk ⟨hxa, by omega, by omega⟩ ?_
    refine wXD ?_
    refine LdN.one (.int .i64 (xn : Int)) rfl (fun w hw => (hw.2.2.2.1.2 _ hpm).2) (by rw [Int.toNat_natCast]; show (iC items)[k * 1]? = _; rw [Nat.mul_one]; exact iC_get hx) ?_
    refine wXD ?_
    have hnx := fold_next (f := writeF (l.map (·.c)) n) (b := w2) hx
    refine callG (ih ((items.take k).foldl (writeF (l.map (·.c)) n) w2) i3 q3 xn hxl (hfr k) hx0 (by rw [← hnx]; exact fold_lim (gone_write _ n) hl2 (k + 1))) [0, 1, 2, 3, 4] rfl ⟨rfl, rfl, rfl, rfl, rfl, trivial⟩ rfl fun y hy => ?_
    rw [← hnx] at hy ⊢
    refine wXD ?_
    refine ⟨(k + 1, y), ⟨by omega, hy⟩, by show items.length - (k + 1) < items.length - k; omega, ?_, wkE_refl _, wkE_refl _, wkE_refl _, wkE_refl _, wkE_refl _, wkE_refl _, trivial⟩
    exact wKK
   ·obtain rfl : k = items.length := by omega
    rw [List.take_length] at hx0 ⊢
    refine wXD ?_
    exact ⟨(i3, q3), hx0, rfl, wkE_refl _, wkE_refl _, wkE_refl _, wkE_refl _, wkE_refl _, trivial⟩
  ·-- 8: the kind
   rw [writeF_eq, hat]
   refine ownC hm Tryz.func35 (by kernel_rfl) rfl rfl (fun _ _ => wM_ok _ _ _ _ _ _ _ _) (fun _ _ => Nat.le_refl _) ?_
   refine wXD ?_
   refine Nd.mk ⟨hsa, by omega, by omega⟩ ?_
   refine wXD ?_
   refine LdN.agg [.int .i64 8, .int .i64 num0, .string (bs text), .slice na names.length nc, .slice ia items.length ic] rfl (fun w hw => hw.2.2.2.1.1) rfl (fun k hk => by rw [Int.toNat_natCast]; exact grC_get l u k hk hp) ?_
   refine wXD ?_
   refine ReadW.askKey (et := 3) (p := (u : Int)) (idxR w.cells) rfl (by kernel_rfl) intT rfl rfl rfl rfl (fun w hw => hw.2.1) ho.c ?_
   rw [idxR_look]
   by_cases hm : (u : Int) ∈ w.cells
   ·have hi := List.idxOf_lt_length_iff.2 hm
    rw [if_pos hm, show writeC (writeF (l.map (·.c)) n) ⟨8, num0, text, names, items⟩ w (u : Int) = putW w (64 :: num (w.cells.idxOf (u : Int))) from writeC_met (by simp) hm]
    generalize w.cells.idxOf (u : Int) = k at hi ⊢
    refine wXD ?_
    refine DrawN.planQ [0, 3] [1, 2, 4, 5] [(6, 0)] (by decide +kernel) ?_
    refine wXD ?_
    have hnl := num_len (n := k) (by omega)
    refine callQ (wide_c (k) (by omega) _) ?_
    refine wXD ?_
    refine Nd.mk (by rw [bs_size]; show 1 + _ < _; omega) ?_
    rw [show (⟨#[64]⟩ : ByteArray) = bs [64] from rfl, bs_app]
    refine wXD ?_
    refine callG (WriteString_m (.slice a l.length ca) (GrF a l) mb sb (q) true (w.out) ([64] ++ num k) i ho.b (by first | omega | (simp; omega))) [0, 1, 2, 3, 4] rfl ⟨rfl, rfl, rfl, rfl, rfl, trivial⟩ rfl fun i2 hi2 => ?_
    refine wXD ?_
    exact ⟨(i2, q), ⟨hi2, ho.c, ho.s⟩, rfl, wkE_refl _, wkE_refl _, wkE_refl _, wkE_refl _, wkE_refl _, trivial⟩
   rw [if_neg hm]
   refine wXD ?_
   refine DrawN.planQ [0, 4, 5] [1, 2, 3, 6, 7, 8, 9] [(10, 0)] (by decide +kernel) ?_
   refine wXD ?_
   refine ReadW.mapLen (kt := 3) (et := 3) w.cells.length rfl rfl rfl (by kernel_rfl) rfl (fun w hw => hw.2.1) (by rw [← Array.length_toList, ho.c.len, idxR_len]) ?_
   refine wXD ?_
   refine EffW.setMap (et := 3) (p := (u : Int)) 2 (idxR w.cells) rfl (by kernel_rfl) intT rfl rfl rfl rfl ho.c fun es2 c2 hk2 => ?_
   rw [idxR_put hm] at hk2
   refine wXD ?_
   obtain ⟨w1, hw1⟩ : ∃ w1 : Wr, w1 = { w with cells := w.cells ++ [(u : Int)] } := ⟨_, rfl⟩
   have ho1 : WOk w1 (i, ⟨es2, c2, q.se, q.sc⟩) := by rw [hw1]; exact ⟨ho.b, hk2, ho.s⟩
   have ho1o : w1.out = w.out := by rw [hw1]
   have hlt := free_lt hin hm (t := w.cells ++ [(u : Int)]) (fun x hx => by simp [hx]) (by simp)
   have hlen := hcw.len
   have hcls := (hcw.cls rfl).2
   have hns := hcw.lens rfl
   have hnam := hcw.nam
   simp only at hlen hcls hns hnam
   have he : writeC (writeF (l.map (·.c)) n) ⟨8, num0, text, names, items⟩ w (u : Int) = (names.zip items).foldl (pairW (l.map (·.c)) n) (putW (symW (putW w1 [111]) text) (num names.length)) := by
    rw [writeC_new (by simp) hm, if_neg (by simp), if_neg (by simp), if_neg (by simp), hw1]
    rfl
   rw [he]
   have hl2 : Lim ((names.zip items).foldl (pairW (l.map (·.c)) n) (putW (symW (putW w1 [111]) text) (num names.length))) := by rw [← he]; exact hlim
   have hl1 := (gone_fold (gone_pair (l.map (·.c)) n) _ _).lim hl2
   have hl0 := (gone_put _ _).lim hl1
   rw [← ho1o]
   rw [← ho1o] at hlo
   refine callG (WriteString_m (.slice a l.length ca) (GrF a l) mb sb (⟨es2, c2, q.se, q.sc⟩) true (w1.out) ([111]) i ho1.b (by first | omega | (simp; omega))) [0, 1, 2, 3, 4] rfl ⟨rfl, rfl, rfl, rfl, rfl, trivial⟩ rfl fun i2 hi2 => ?_
   refine wXD ?_
   refine callG (symbol_m (.slice a l.length ca) (GrF a l) mb sb (putW w1 [111]) text i2 ⟨es2, c2, q.se, q.sc⟩ ⟨hi2, ho1.c, ho1.s⟩ (by have := ((gone_sym _ _).lim hl0).o; omega) (by omega) (by have := ((gone_sym _ _).lim hl0).s; omega)) [0, 1, 2, 3, 4] rfl ⟨rfl, rfl, rfl, rfl, rfl, trivial⟩ rfl fun x hx => ?_
   obtain ⟨i4, q4⟩ := x
   refine wXD ?_
   obtain ⟨w4, hw4⟩ : ∃ w4, w4 = symW (putW w1 [111]) text := ⟨_, rfl⟩
   rw [← hw4] at hx hl2 hl1 hl0 ⊢
   have hl0o := hl0.o
   refine DrawN.planQ [0, 3] [1, 2, 4, 5, 6] [(7, 0)] (by decide +kernel) ?_
   refine wXD ?_
   have hnl := num_len (n := names.length) (by omega)
   refine callQ (wide_c names.length (by omega) _) ?_
   refine wXD ?_
   refine callG (WriteString_m (.slice a l.length ca) (GrF a l) mb sb (q4) true (w4.out) (num names.length) i4 hx.b (by first | omega | (simp; omega))) [0, 1, 2, 3, 4] rfl ⟨rfl, rfl, rfl, rfl, rfl, trivial⟩ rfl fun i2 hi2 => ?_
   refine wXD ?_
   obtain ⟨w5, hw5⟩ : ∃ w5, w5 = putW w4 (num names.length) := ⟨_, rfl⟩
   have ho5 : WOk w5 (i2, q4) := by rw [hw5]; exact ⟨hi2, hx.c, hx.s⟩
   have hl5 : Lim ((names.zip items).foldl (pairW (l.map (·.c)) n) w5) := by rw [hw5]; exact hl2
   rw [← hw5]
   have hfr : ∀ k, freeN (l.map (·.c)) (((names.zip items).take k).foldl (pairW (l.map (·.c)) n) w5).cells < n := fun k => by
    have h1 := free_mono (g := l.map (·.c)) (gone_fold (gone_pair (l.map (·.c)) n) ((names.zip items).take k) w5).sub
    have h2 : w5.cells = w.cells ++ [(u : Int)] := by rw [hw5, put_cells, hw4, sym_cells, put_cells, hw1]
    rw [h2] at h1
    omega
   have hzl : (names.zip items).length = names.length := by rw [List.length_zip]; omega
   refine LoopN.intro (Nat × BSt × MapP) (fun ⟨k, x⟩ => k ≤ names.length ∧ WOk (((names.zip items).take k).foldl (pairW (l.map (·.c)) n) w5) x)
    (fun ⟨k, _⟩ => mkS Tryz.f35.ntmps 0 [(0, .c (.lp 0 0)), (4, .c (.lp 5 0)), (144, .c (.v (.slice na names.length nc))), (145, .c (.v (.int .i64 (names.length : Int)))), (146, .c (.v (.int .i64 (k : Int))))])
    (fun ⟨k, x⟩ => wM (.slice a l.length ca) (GrF a l) true (((names.zip items).take k).foldl (pairW (l.map (·.c)) n) w5).out x.1 mb sb x.2 ++ [.blk 57 [.v (.int .i64 8), .v (.int .i64 num0), .v (.string (bs text)), .v (.slice na names.length nc), .v (.slice ia items.length ic)]]) (fun ⟨k, _⟩ => names.length - k) [] rfl (fun _ => rfl) (fun _ => rfl) (fun _ _ => okHB_eq rfl) ?_ ?_
   ·refine ⟨(0, i2, q4), ⟨Nat.zero_le _, ho5⟩, ?_, ?_⟩
    ·exact wKK
    ·show wkH _ (wM _ _ true w5.out i2 mb sb q4 ++ _)
     rw [hw5, put_out]
     exact ⟨wkE_refl _, wkE_refl _, wkE_refl _, wkE_refl _, wkE_refl _, wkE_refl _, trivial⟩
   rintro ⟨k, x0⟩ ⟨hk, hx0⟩
   obtain ⟨i3, q3⟩ := x0
   refine wXD ?_
   refine brd_dec (fun h1 => ?_) (fun h1 => ?_)
   ·-- an item: what is known of it
    obtain ⟨x, hx⟩ : ∃ z, items[k]? = some z := ⟨_, List.getElem?_eq_getElem (by omega)⟩
    have hxi := houts x (List.mem_of_getElem? hx)
    obtain ⟨xn, rfl⟩ : ∃ xn : Nat, x = (xn : Int) := ⟨x.toNat, by have := hxi.1; omega⟩
    have hxl : xn < l.length := by have := hxi.2; simp only [List.length_map] at this; omega
    have hxa : ia.isSome = true := by
     cases ia with
     | none => have h0 : items = [] := hpo.ia rfl; rw [h0] at hx; cases hx
     | some b => rfl
    obtain ⟨nm, hnm⟩ : ∃ z, names[k]? = some z := ⟨_, List.getElem?_eq_getElem (by omega)⟩
    have hnma : na.isSome = true := by
     cases na with
     | none => have h0 : names = [] := hpo.na rfl; rw [h0] at hnm; cases hnm
     | some b => rfl
    have hn40 := (hnam nm (List.mem_of_getElem? hnm)).2
    have hz : (names.zip items)[k]? = some (nm, (xn : Int)) := List.getElem?_zip_eq_some.2 ⟨hnm, hx⟩
    have hnx := fold_next (f := pairW (l.map (·.c)) n) (b := w5) hz
    have hl6 := fold_lim (gone_pair (l.map (·.c)) n) hl5 (k + 1)
    have hfk := hfr k
    obtain ⟨wk, hwk⟩ : ∃ w : Wr, w = ((names.zip items).take k).foldl (pairW (l.map (·.c)) n) w5 := ⟨_, rfl⟩
    rw [hnx] at hl6
    rw [← hwk] at hnx hl6 hfk hx0 ⊢
    have hl6b : Lim (writeF (l.map (·.c)) n (symW wk nm) (xn : Int)) := hl6
    have hl7 : Lim (symW wk nm) := (gone_write _ n _ _).lim hl6b
    have hl8 := (gone_sym _ _).lim hl7
    refine wXD ?_
    refine Nd.mk ⟨hnma, by omega, by omega⟩ ?_
    refine wXD ?_
    refine LdN.one (.string (bs nm)) rfl (fun w hw => (hw.2.2.2.1.2 _ hpm).1) (by rw [Int.toNat_natCast]; show (strC names)[k * 1]? = _; rw [Nat.mul_one]; exact strC_get hnm) ?_
    refine wXD ?_
    refine callG (symbol_m (.slice a l.length ca) (GrF a l) mb sb wk nm i3 q3 hx0 (by have := hl8.o; omega) (by omega) (by have := hl8.s; omega)) [0, 1, 2, 3, 4] rfl ⟨rfl, rfl, rfl, rfl, rfl, trivial⟩ rfl fun y hy => ?_
    obtain ⟨i6, q6⟩ := y
    refine wXD ?_
    refine Nd.mk ⟨hxa, by omega, by omega⟩ ?_
    refine wXD ?_
    refine LdN.one (.int .i64 (xn : Int)) rfl (fun w hw => (hw.2.2.2.1.2 _ hpm).2) (by rw [Int.toNat_natCast]; show (iC items)[k * 1]? = _; rw [Nat.mul_one]; exact iC_get hx) ?_
    refine wXD ?_
    refine callG (ih (symW wk nm) i6 q6 xn hxl (by rw [sym_cells]; exact hfk) hy hl6b) [0, 1, 2, 3, 4] rfl ⟨rfl, rfl, rfl, rfl, rfl, trivial⟩ rfl fun z hz2 => ?_
    have hnx2 : writeF (l.map (·.c)) n (symW wk nm) (xn : Int) = ((names.zip items).take (k + 1)).foldl (pairW (l.map (·.c)) n) w5 := hnx.symm
    rw [hnx2] at hz2 ⊢
    refine wXD ?_
    refine ⟨(k + 1, z), ⟨by omega, hz2⟩, by show names.length - (k + 1) < names.length - k; omega, ?_, wkE_refl _, wkE_refl _, wkE_refl _, wkE_refl _, wkE_refl _, wkE_refl _, trivial⟩
    exact wKK
   ·obtain rfl : k = names.length := by omega
    rw [← hzl, List.take_length] at hx0
    rw [show (names.zip items).take names.length = names.zip items by rw [← hzl, List.take_length]]
    refine wXD ?_
    exact ⟨(i3, q3), hx0, rfl, wkE_refl _, wkE_refl _, wkE_refl _, wkE_refl _, wkE_refl _, trivial⟩
end Go.Proofs.YtgogonnnojcioaaGreatDoor
namespace Go.Marshal
open Go.Core
theorem dmp_of {g : List Cell} (hv : ValidP g) (hs : ∀ c ∈ g, c.items.length ≤ 2000 ∧ c.names.length ≤ 2000) {k : Int} (hk : InI g k) : Dmp g 2030 k :=
 ⟨hv, fun c hc => ⟨(hs c hc).1, (hs c hc).2, by have := cellD_text (hv.2.1 c hc); omega⟩, hk⟩
theorem Dmp.lim {g : List Cell} {k : Int} (h : Dmp g 2030 k) : Lim (doneW g k) := by
 have h500 := h.valid.1
 have hin := valid_in h.valid
 have h1 := write_ss hin h.cellW (g.length + 1) ⟨headB, [], []⟩ k h.at_
 have h2 := h.wle
 have h3 := cells_few h500 h.kn.nodup h.kn.inI
 have h4 := write_len hin h.cellW (by decide) (g.length + 1) ⟨headB, [], []⟩ k h.at_ h.few
 have h5 : wgt iN g [] ≤ g.length * 4000 := wgt_le (fun i hi => by
  have := h.small _ (at_mem hi)
  unfold iN
  omega) []
 have e1 : (⟨headB, [], []⟩ : Wr).ss.length = 0 := rfl
 have e2 : (⟨headB, [], []⟩ : Wr).cells = [] := rfl
 have e3 : (⟨headB, [], []⟩ : Wr).out.length = 3 := rfl
 rw [e1, e2] at h1
 rw [e2, e3] at h4
 refine ⟨?_, ?_, ?_⟩
 ·unfold doneW; omega
 ·unfold doneW; omega
 ·omega
end Go.Marshal
namespace Go.Proofs.YtgogonnnojcioaaGreatDoor
open Go.AX Go.RowKit Go.Core Go.Marshal
set_option maxRecDepth 20000
theorem small_c {l : List CellP} (hs : Small l) : ∀ c ∈ l.map (·.c), c.items.length ≤ 2000 ∧ c.names.length ≤ 2000 := fun c hc => by
 obtain ⟨p, hp, rfl⟩ := List.mem_map.1 hc
 exact ⟨(hs.2 p hp).2, (hs.2 p hp).1⟩
set_option maxHeartbeats 4000000 in
theorem Dump_c {a : Option Addr} (ca : Nat) {l : List CellP} (ha : a = none → l = []) (hs : Small l) (hok : ∀ p ∈ l, CellOk p) (u : Int) :
  ∃ e : Bool, (e = true ↔ AskP (l.map (·.c)) [u]) ∧ ∀ H, (∀ w, Facts H w → GrF a l w) → SpecH Tryz.prog 14 (pvs [.slice a l.length ca, .int .i64 u]) H (Ret (.tuple #[.string (bs (if e then dumpS (l.map (·.c)) u else [])), errI e]) H) := by
 obtain ⟨e, he, hr⟩ := Reach_c ca ha hs hok u
 refine ⟨e, he, ?_⟩
 refine factC hm Tryz.func14 (by kernel_rfl) rfl rfl ?_
 refine wXD ?_
 refine SpecF.call hr (fun w hw => hw.1) fun v G hv => ?_
 obtain ⟨oa, oc, rfl, hoa, hG⟩ := hv
 cases e with
 | false =>
  refine wXD ?_
  rfl
 | true =>
  have hask := he.1 rfl
  have hin := valid_in hask.1
  have hu := hask.2 u (by simp)
  have hd := dmp_of hask.1 (small_c hs) hu
  obtain ⟨v, rfl⟩ : ∃ v : Nat, u = (v : Int) := ⟨u.toNat, by omega⟩
  have hgl : (l.map (·.c)).length = l.length := by simp
  refine wXD ?_
  refine EffW.mkMap rfl fun mb => ?_
  refine wXD ?_
  refine EffW.mkMap rfl fun sb => ?_
  refine wXD ?_
  refine SpecH.pad [.app 5 1 [] none 0 0] rfl ?_
  have hok0 : BSt.ok (0 : Nat) ⟨none, 0⟩ := ⟨fun _ => ⟨rfl, rfl⟩, Nat.le_refl _, fun _ => rfl⟩
  refine callG (WriteString_m (.slice a l.length ca) (GrF a l) mb sb ⟨#[], 0, #[], 0⟩ false [] headB ⟨none, 0⟩ hok0 (by decide)) [4, 5, 2, 3, 0] rfl ⟨rfl, rfl, rfl, rfl, rfl, trivial⟩ rfl fun i2 hi2 => ?_
  refine wXD ?_
  have hlim := hd.lim
  have hdl : doneW (l.map (·.c)) (v : Int) = writeF (l.map (·.c)) (l.length + 1) ⟨headB, [], []⟩ (v : Int) := by unfold doneW; rw [hgl]
  have hds : dumpS (l.map (·.c)) (v : Int) = (writeF (l.map (·.c)) (l.length + 1) ⟨headB, [], []⟩ (v : Int)).out := by rw [← hdl]; rfl
  rw [hdl] at hlim
  refine callG (cell_m ca ha hok hin hd.cellW hs.1 mb sb (l.length + 1) ⟨headB, [], []⟩ i2 ⟨#[], 0, #[], 0⟩ v (by omega) (by have := free_le (l.map (·.c)) []; show freeN _ [] < _; omega) ⟨hi2, rfl, rfl⟩ hlim) [4, 5, 2, 3, 0] rfl ⟨rfl, rfl, rfl, rfl, rfl, trivial⟩ rfl fun x hx => ?_
  rw [hds]
  generalize writeF (l.map (·.c)) (l.length + 1) ⟨headB, [], []⟩ (v : Int) = W at hx hlim ⊢
  refine wXD ?_
  refine callG (String_m (.slice a l.length ca) (GrF a l) mb sb x.2 true W.out x.1 hx.b) [4, 5, 2, 3, 0] rfl ⟨rfl, rfl, rfl, rfl, rfl, trivial⟩ rfl fun _ _ => ?_
  refine wXD ?_
  rfl
end Go.Proofs.YtgogonnnojcioaaGreatDoor
namespace Go.Proofs.YtgogonnnojcioaaGreatDoor
open Go.AX Go.RowKit Go.Core Go.Marshal
set_option maxRecDepth 20000
end Go.Proofs.YtgogonnnojcioaaGreatDoor
namespace Go.Marshal
open Go.Core
end Go.Marshal
namespace Go.Proofs.YtgogonnnojcioaaGreatDoor
open Go.AX Go.RowKit Go.Core Go.Marshal
set_option maxRecDepth 20000
variable (gv : Value) (F : World → Prop)
end Go.Proofs.YtgogonnnojcioaaGreatDoor
namespace Go.Proofs.YtgogonnnojcioaaGreatDoor
open Go.AX Go.RowKit Go.Core Go.Marshal
set_option maxRecDepth 20000
end Go.Proofs.YtgogonnnojcioaaGreatDoor
namespace Go.Proofs.YtgogonnnojcioaaGreatDoor
open Go.AX Go.RowKit Go.Core Go.Marshal
set_option maxRecDepth 20000
def Wide (l : List CellP) : Prop := l.length ≤ 2000 ∧ ∀ p ∈ l, p.c.names.length ≤ 40000 ∧ p.c.items.length ≤ 40000
set_option maxHeartbeats 4000000 in
theorem as_m (a : Option Addr) (ca : Nat) (l : List CellP) (ha : a = none → l = []) (hs : Wide l) (hok : ∀ p ∈ l, CellOk p) : SpecF Tryz.prog 18 [.slice a l.length ca] (GrF a l) (GrR (l.map (·.c))) := by
 obtain ⟨hl, hsm⟩ := hs
 refine specF hm Tryz.func18 (by kernel_rfl) rfl rfl ?_
 refine wX ?_
 refine LoopN.introS DSt (DInv l) (fun ⟨i, oa, oc, m⟩ => mkS 35 0 [(0, .c (.v (.slice a l.length ca))), (3, .c (.v (.slice oa m.length oc))), (4, .c (.v (.int .i64 (i : Int))))]) (fun ⟨i, oa, oc, m⟩ => [.fact (GrF a l), .app 87 5 (grC m) oa m.length oc, .fact (fun w => ∀ p ∈ m, CellF p w)]) (fun ⟨i, _, _, _⟩ => l.length - i) [.app 87 5 [] none 0 0, .dead] rfl (fun _ => rfl) (fun _ => rfl) (fun _ _ => ⟨trivial, trivial, trivial, trivial⟩) ?_ ?_
 ·refine ⟨⟨0, none, 0, []⟩, ⟨Nat.zero_le _, rfl, (fun p h => by cases h), (fun _ => rfl), Nat.le_refl _⟩, ?_, [.fact (GrF a l), .app 87 5 [] none 0 0, .fact (fun w => ∀ p ∈ [], CellF p w)], turnS ?_, ?_⟩
  ·exact wKK
  ·exact ⟨.inr (.inl rfl), .inr (.inl rfl), .inr (.inr ⟨_, rfl, fun w _ p hp => by cases hp⟩), trivial⟩
  ·exact wkH_refl _
 rintro ⟨i, oa, oc, m⟩ hinv
 have hml := hinv.len
 obtain ⟨hi, hmc, hmo, hoa, hoc⟩ := hinv
 refine wX ?_
 refine brd_dec (fun h1 => ?_) (fun h1 => ?_)
 ·obtain ⟨p, hp⟩ : ∃ p, l[i]? = some p := ⟨_, List.getElem?_eq_getElem (by omega)⟩
  have hpm := List.mem_of_getElem? hp
  have hpo := hok p hpm
  obtain ⟨hnl, hil⟩ := hsm p hpm
  have hsa : a.isSome = true := by
   cases a with
   | none => rw [ha rfl] at hp; cases hp
   | some b => rfl
  refine wX ?_
  refine Nd.mk ⟨hsa, by omega, by omega⟩ ?_
  refine wX ?_
  refine LdN.agg (cellC p) rfl (fun w hw => hw.1.1) rfl (fun k hk => by rw [Int.toNat_natCast]; exact grC_get l i k hk hp) ?_
  refine wXB ?_
  refine BoxN.known [.int .i64 0, .int .i64 0, .string { data := #[] }, .slice none 0 0, .slice none 0 0] rfl fun cb => ?_
  refine wXB ?_
  refine EffW.appTo (i := 3) (q := 0) (ys := cellC p) (cellC p) 5 rfl rfl rfl rfl rfl rfl rfl (Nat.le_of_ble_eq_true rfl) rfl rfl ?_
  refine wXB ?_
  refine DrawN.planK hm (fun w => SlAt (some ⟨cb, 0, none⟩) 5 (cellC p) w) [7, 11] [0, 1, 3, 5, 8, 12] [(9, 1), (2, 1), (4, 1), (6, 1), (13, 1), (7, 2), (10, 0), (11, 2), (14, 0), (15, 0), (16, 0), (17, 0), (18, 0)] (by decide +kernel) (fun w hw => hw.2.2.2.1) ?_
  refine wXP ?_
  refine ReadC.one (a := some ⟨cb, 0, none⟩) (q := 3) (.slice p.na p.c.names.length p.nc) rfl rfl rfl (fun w hw => hw) rfl ?_
  refine wXP ?_
  refine ReadC.one (a := some ⟨cb, 0, none⟩) (q := 0) (.int .i64 p.c.kind) rfl rfl rfl (fun w hw => hw) rfl ?_
  refine wXP ?_
  refine ReadC.one (a := some ⟨cb, 0, none⟩) (q := 1) (.int .i64 p.c.num) rfl rfl rfl (fun w hw => hw) rfl ?_
  refine wXP ?_
  refine ReadC.one (a := some ⟨cb, 0, none⟩) (q := 2) (.string (bs p.c.text)) rfl rfl rfl (fun w hw => hw) rfl ?_
  refine wXP ?_
  refine ReadC.one (a := some ⟨cb, 0, none⟩) (q := 4) (.slice p.ia p.c.items.length p.ic) rfl rfl rfl (fun w hw => hw) rfl ?_
  refine wXP ?_
  intro nb
  refine wXP ?_
  refine app_any 4 [] (strC p.c.names) rfl (Nat.le_refl _) (fun h => by cases hq : p.na with | none => rw [hpo.na hq] at h; cases h | some b => rfl) (by show (strC p.c.names).length = p.c.names.length * 1; simp [strC]) (fun u hu => by obtain ⟨x, _, rfl⟩ := List.mem_map.1 hu; rfl) (fun w hw j v hv => (hw.1.2 p hpm).1.cell hv) ⟨⟨by show (0 + p.c.names.length) * 16 ≤ _; omega, by omega⟩, Nat.one_ne_zero⟩ fun nb2 nc2 hnc2 => ?_
  rw [Nat.zero_add, List.nil_append]
  refine wXP ?_
  intro ib
  refine wXP ?_
  refine app_any 5 [] (iC p.c.items) rfl (Nat.le_refl _) (fun h => by cases hq : p.ia with | none => rw [hpo.ia hq] at h; cases h | some b => rfl) (by show (iC p.c.items).length = p.c.items.length * 1; simp [iC]) (fun u hu => by obtain ⟨x, _, rfl⟩ := List.mem_map.1 hu; rfl) (fun w hw j v hv => (hw.1.2 p hpm).2.cell hv) ⟨⟨by show (0 + p.c.items.length) * 8 ≤ _; omega, by omega⟩, Nat.one_ne_zero⟩ fun ib2 ic2 hic2 => ?_
  rw [Nat.zero_add, List.nil_append]
  refine wXP ?_
  refine RwN.own ?_
  refine wXP ?_
  refine Nd.mk ⟨Nat.le_refl 1, rfl, rfl⟩ ?_
  (conv => whnf)
  refine AppN.grow 1 (grC m) (cellC ⟨p.c, some ⟨nb2, 0, none⟩, nc2, some ⟨ib2, 0, none⟩, ic2⟩) rfl rfl ⟨Nat.le_refl 1, ⟨by show (m.length + 1) * 80 ≤ _; omega, by omega⟩, by decide⟩ fun ob2 oc2 hoc2 _ => ?_
  refine wXP ?_
  have hm2 : m.length + 1 = (m ++ [(⟨p.c, some ⟨nb2, 0, none⟩, nc2, some ⟨ib2, 0, none⟩, ic2⟩ : CellP)]).length := by simp
  have hg2 := grC_snoc m ⟨p.c, some ⟨nb2, 0, none⟩, nc2, some ⟨ib2, 0, none⟩, ic2⟩
  refine ⟨⟨i + 1, some ⟨ob2, 0, none⟩, oc2, m ++ [⟨p.c, some ⟨nb2, 0, none⟩, nc2, some ⟨ib2, 0, none⟩, ic2⟩]⟩, ⟨by omega, ?_, ?_, (fun h => by cases h), by omega⟩, by show l.length - (i + 1) < l.length - i; omega, ?_, [.fact (GrF a l), .app 87 5 (grC m ++ cellC ⟨p.c, some ⟨nb2, 0, none⟩, nc2, some ⟨ib2, 0, none⟩, ic2⟩) (some ⟨ob2, 0, none⟩) (m.length + 1) oc2, .fact (fun w => ∀ q ∈ m ++ [⟨p.c, some ⟨nb2, 0, none⟩, nc2, some ⟨ib2, 0, none⟩, ic2⟩], CellF q w), .dead, .dead, .dead, .dead], turnS ?_, ?_⟩
  ·rw [List.take_add_one, hp, List.map_append, List.map_append, hmc]
   rfl
  ·intro q hq
   rcases List.mem_append.1 hq with hq | hq
   ·exact hmo q hq
   ·rw [List.mem_singleton.1 hq]
    exact ⟨(fun h => by cases h), (fun h => by cases h), hpo.nl, hpo.il, hpo.nw, hpo.tl, by show p.c.names.length ≤ nc2; omega, by show p.c.items.length ≤ ic2; omega⟩
  ·(repeat' (first | exact trivial | refine And.intro (by with_reducible rfl) ?_ | (with_reducible exact wkC_refl _) | (with_reducible exact wkCs_refl _) | refine And.intro ?_ ?_))
   all_goals first | rfl | exact av_int (by omega) | (rw [hm2])
  ·refine ⟨.inr (.inl rfl), .inr (.inl rfl), .inr (.inr ⟨_, rfl, fun w hw q hq => ?_⟩), .inl rfl, .inl rfl, .inl rfl, .inl rfl, trivial⟩
   rcases List.mem_append.1 hq with hq | hq
   ·exact hw.2.1 q hq
   ·rw [List.mem_singleton.1 hq]
    exact ⟨hw.2.2.2.1, hw.2.2.2.2.1⟩
  ·show wkH _ [Ent.fact (GrF a l), .app 87 5 (grC (m ++ [_])) _ (m ++ [_]).length _, _]
   rw [← hm2, hg2]
   exact ⟨wkE_refl _, wkE_refl _, wkE_refl _, trivial⟩
 ·have hil : i = l.length := by omega
  subst hil
  rw [List.take_length] at hmc
  refine wX ?_
  refine fin_p (GrF oa m) ⟨oa, oc, m, rfl, hoa, hmc, hmo, fun w hw => hw⟩ fun w hw => ⟨hw.2.1, hw.2.2.1⟩
def exM : Cell := ⟨6, 0, [], [], [0]⟩
def exQ (ib : Nat) : CellP := ⟨exM, none, 0, some ⟨ib, 0, none⟩, 1⟩
theorem exM_val : ValidP [exM] := ⟨by decide, fun c hc => by rw [List.mem_singleton.1 hc]; decide, fun c hc h => by rw [List.mem_singleton.1 hc] at h; exact absurd h (by decide)⟩
theorem exM_ask : AskP [exM] [0] := ⟨exM_val, fun x hx => by rw [List.mem_singleton.1 hx]; decide⟩
theorem exM_dump : dumpS [exM] 0 = [67, 77, 1, 91, 1, 64, 0] := by decide +kernel
theorem exQ_small (ib : Nat) : Small [exQ ib] := ⟨by simp, fun p hp => by rw [List.mem_singleton.1 hp]; exact ⟨by show (0 : Nat) ≤ 2000; omega, by show (1 : Nat) ≤ 2000; omega⟩⟩
theorem exQ_ok (ib : Nat) : ∀ p ∈ [exQ ib], CellOk p := fun p hp => by
 rw [List.mem_singleton.1 hp]
 exact ⟨(fun _ => rfl), (fun h => by cases h), by show (0 : Nat) ≤ _; omega, by show (1 : Nat) ≤ _; omega, (fun s hs => by cases hs), by show (0 : Nat) ≤ _; omega, Nat.le_refl _, Nat.le_refl _⟩
set_option maxHeartbeats 4000000 in
theorem sane_m : ∀ H, SpecH Tryz.prog 13 (pvs []) H (Ret (.bool true) H) := by
 refine pureC hm Tryz.func13 (by kernel_rfl) rfl rfl ?_
 refine wXR ?_
 refine RwN.known [.int .i64 0] rfl fun ib => ?_
 refine wXR ?_
 refine RwN.known [.int .i64 6, .int .i64 0, .string { data := #[] }, .slice none 0 0, .slice (some ⟨ib, 0, none⟩) 1 1] rfl fun gb => ?_
 refine wXR ?_
 obtain ⟨e, he1, he2⟩ := Dump_c (a := some ⟨gb, 0, none⟩) 1 (l := [exQ ib]) (fun h => by cases h) (exQ_small ib) (exQ_ok ib) 0
 obtain rfl : e = true := he1.2 exM_ask
 have hx : (if true = true then dumpS ([exQ ib].map (·.c)) 0 else []) = [67, 77, 1, 91, 1, 64, 0] := exM_dump
 rw [hx] at he2
 refine call1 (he2 [.app 3 1 [.int .i64 0] (some ⟨ib, 0, none⟩) 1 1, .app 57 5 [.int .i64 6, .int .i64 0, .string { data := #[] }, .slice none 0 0, .slice (some ⟨ib, 0, none⟩) 1 1] (some ⟨gb, 0, none⟩) 1 1] (fun w hw => ⟨hw.2.1, fun p hp => by
  rw [List.mem_singleton.1 hp]
  exact ⟨SlAt.nil, hw.1⟩⟩)) ?_
 refine wX ?_
 rfl
end Go.Proofs.YtgogonnnojcioaaGreatDoor
namespace Go.Marshal
open Go.Core
structure PS where
 s : B
 g : List Cell
 cells : List Int
 ss : List B
 e : Int
def failM (st : PS) (e : Int) : PS := if st.e = 0 then { st with e := e } else st
def nextM (st : PS) : UInt8 × PS := if st.e ≠ 0 then (0, st) else match st.s with
 | [] => (0, { st with e := 14 })
 | x :: s => (x, { st with s := s })
def rdQ : Nat → B → B
 | _, [] => []
 | i, x :: s => if i = 0 ∧ x = 128 ∨ 9 ≤ i then s else if x.toNat < 128 then s else rdQ (i + 1) s
def numM (most : Nat) (st : PS) : Nat × PS := if st.e ≠ 0 then (0, st) else match rd most st.s with
 | .ok (n, _) => (n, { st with s := rdQ 0 st.s })
 | .error e => (0, { st with s := rdQ 0 st.s, e := e })
def textM (most : Nat) (st : PS) : B × PS :=
 if (numM maxN st).2.e ≠ 0 then ([], (numM maxN st).2)
 else if most < (numM maxN st).1 then ([], { (numM maxN st).2 with e := 4 })
 else if (numM maxN st).2.s.length < (numM maxN st).1 then ([], { (numM maxN st).2 with e := 14 })
 else ((numM maxN st).2.s.take (numM maxN st).1, { (numM maxN st).2 with s := (numM maxN st).2.s.drop (numM maxN st).1 })
def symM (x : UInt8) (st : PS) : B × PS :=
 if x = 58 then
  ((textM 40 st).1, { (if (textM 40 st).2.e = 0 ∧ (textM 40 st).1 ∈ (textM 40 st).2.ss then failM (textM 40 st).2 4 else (textM 40 st).2) with ss := (textM 40 st).2.ss ++ [(textM 40 st).1] })
 else if x = 59 then
  if (numM maxN st).2.e = 0 ∧ (numM maxN st).1 < (numM maxN st).2.ss.length then ((numM maxN st).2.ss.getD (numM maxN st).1 [], (numM maxN st).2) else ([], failM (numM maxN st).2 4)
 else ([], failM st 4)
def itemsM (f : PS → Int × PS) : Nat → List Int → PS → List Int × PS
 | 0, l, st => (l, st)
 | n + 1, l, st => if st.e = 0 then itemsM f n (l ++ [(f st).1]) (f st).2 else (l, st)
def nameM (ns : List B) (st : PS) : B × PS :=
 ((symM (nextM st).1 (nextM st).2).1, if (symM (nextM st).1 (nextM st).2).2.e = 0 ∧ ((symM (nextM st).1 (nextM st).2).1 ∈ ns ∨ Go.Scan.iiB (symM (nextM st).1 (nextM st).2).1 = false) then failM (symM (nextM st).1 (nextM st).2).2 4 else (symM (nextM st).1 (nextM st).2).2)
def attrsM (f : PS → Int × PS) : Nat → List B → List Int → PS → (List B × List Int) × PS
 | 0, ns, l, st => ((ns, l), st)
 | n + 1, ns, l, st => if st.e = 0 then attrsM f n (ns ++ [(nameM ns st).1]) (l ++ [(f (nameM ns st).2).1]) (f (nameM ns st).2).2 else ((ns, l), st)
def classM (st : PS) : B × PS :=
 ((symM (nextM st).1 (nextM st).2).1, if (symM (nextM st).1 (nextM st).2).2.e = 0 ∧ Go.Scan.icB (symM (nextM st).1 (nextM st).2).1 = false then failM (symM (nextM st).1 (nextM st).2).2 4 else (symM (nextM st).1 (nextM st).2).2)
def objM (f : PS → Int × PS) (st : PS) : Cell × PS :=
 (⟨8, 0, (classM st).1, (attrsM f (numM maxN (classM st).2).1 [] [] (numM maxN (classM st).2).2).1.1, (attrsM f (numM maxN (classM st).2).1 [] [] (numM maxN (classM st).2).2).1.2⟩, (attrsM f (numM maxN (classM st).2).1 [] [] (numM maxN (classM st).2).2).2)
def innerM (f : PS → Int × PS) (x : UInt8) (st : PS) : Cell × PS :=
 if x = 84 then (⟨1, 0, [], [], []⟩, st)
 else if x = 70 then (⟨2, 0, [], [], []⟩, st)
 else if x = 105 then (⟨3, unsgn (numM (2 * maxN) st).1, [], [], []⟩, (numM (2 * maxN) st).2)
 else if x = 34 then (⟨4, 0, (textM maxN st).1, [], []⟩, (textM maxN st).2)
 else if x = 58 ∨ x = 59 then (⟨5, 0, (symM x st).1, [], []⟩, (symM x st).2)
 else if x = 91 then (⟨6, 0, [], [], (itemsM f (numM maxN st).1 [] (numM maxN st).2).1⟩, (itemsM f (numM maxN st).1 [] (numM maxN st).2).2)
 else if x = 123 then (⟨7, 0, [], [], (itemsM f (2 * (numM maxN st).1) [] (numM maxN st).2).1⟩, (itemsM f (2 * (numM maxN st).1) [] (numM maxN st).2).2)
 else if x = 111 then objM f st
 else (nilC, st)
def openM (x : UInt8) (st : PS) : PS := { st with g := st.g ++ [nilC], cells := if x ∈ named then st.cells ++ [(st.g.length : Int)] else st.cells }
def refM (st : PS) : Int × PS :=
 let k := numM maxN st
 if k.2.e ≠ 0 then (0, k.2) else if k.2.cells.length ≤ k.1 then (0, failM k.2 4) else (k.2.cells.getD k.1 0, k.2)
def cellM : Nat → PS → Int × PS
 | 0, st => (0, failM st 99)
 | n + 1, st =>
  let x := nextM st
  if x.2.e ≠ 0 then (0, x.2)
  else if x.1 = 64 then refM x.2
  else if 500 ≤ x.2.g.length ∨ x.1 ∉ begins then (0, failM x.2 4)
  else let c := innerM (cellM n) x.1 (openM x.1 x.2)
   ((x.2.g.length : Int), { c.2 with g := c.2.g.set x.2.g.length c.1 })
def toS (st : PS) : St := ⟨st.s, st.g, st.cells, st.ss⟩
def ofS (st : St) : PS := ⟨st.s, st.g, st.cells, st.ss, 0⟩
theorem ofS_toS {st : PS} (h : st.e = 0) : ofS (toS st) = st := by cases st; simp only at h; subst h; rfl
structure Ref {α : Type} (F : St → Except Int (α × St)) (M : PS → α × PS) : Prop where
 ok : ∀ st a st', st.e = 0 → F (toS st) = .ok (a, st') → M st = (a, ofS st')
 err : ∀ st e, st.e = 0 → F (toS st) = .error e → (M st).2.e = e ∧ e ≠ 0
 dead : ∀ st, st.e ≠ 0 → (M st).2.e = st.e
theorem Ref.ret {α : Type} (a : α) : Ref (fun st => .ok (a, st)) (fun st => (a, st)) :=
 ⟨fun st a' st' h e => by cases e; rw [ofS_toS h], (fun st e _ h => by cases h), fun _ _ => rfl⟩
theorem Ref.bnd {α β : Type} {F : St → Except Int (α × St)} {M : PS → α × PS} {G : α → St → Except Int (β × St)} {N : α → PS → β × PS} (hF : Ref F M) (hG : ∀ a, Ref (G a) (N a)) (hd : ∀ a st, st.e ≠ 0 → (N a st).2.e = st.e) : Ref (fun st => bnd (F st) G) (fun st => N (M st).1 (M st).2) := by
 refine ⟨fun st b st2 h0 h => ?_, fun st e h0 h => ?_, fun st h => ?_⟩
 ·cases hf : F (toS st) with
  | error e => simp only [hf] at h; cases h
  | ok p =>
   obtain ⟨a, st1⟩ := p
   simp only [hf] at h
   rw [hF.ok st a st1 h0 hf]
   exact (hG a).ok (ofS st1) b st2 rfl h
 ·cases hf : F (toS st) with
  | error e1 =>
   simp only [hf] at h
   obtain rfl : e1 = e := by have : Except.error e1 = (Except.error e : Except Int (β × St)) := h; exact Except.error.inj this
   obtain ⟨h1, h2⟩ := hF.err st _ h0 hf
   exact ⟨by rw [hd _ _ (by rw [h1]; exact h2), h1], h2⟩
  | ok p =>
   obtain ⟨a, st1⟩ := p
   simp only [hf] at h
   rw [hF.ok st a st1 h0 hf]
   exact (hG a).err (ofS st1) e rfl h
 ·have h1 := hF.dead st h
  show (N (M st).1 (M st).2).2.e = _
  rw [hd _ _ (by rw [h1]; exact h), h1]
theorem Ref.map {α β : Type} {F : St → Except Int (α × St)} {M : PS → α × PS} (hF : Ref F M) (φ : α → β) : Ref (fun st => Marshal.bnd (F st) fun a st => .ok (φ a, st)) (fun st => (φ (M st).1, (M st).2)) :=
 hF.bnd (fun a => Ref.ret (φ a)) (fun _ _ _ => rfl)
theorem fail_dead {st : PS} (h : st.e ≠ 0) (e : Int) : failM st e = st := by unfold failM; rw [if_neg h]
theorem fail_e {st : PS} (h : st.e = 0) (e : Int) : (failM st e).e = e := by unfold failM; rw [if_pos h]
theorem fail_keep (st : PS) (e : Int) (h : st.e ≠ 0) : (failM st e).e = st.e := by rw [fail_dead h]
theorem Ref.next : Ref nextS nextM := by
 refine ⟨fun st a st' h0 h => ?_, fun st e h0 h => ?_, fun st h => ?_⟩
 ·unfold nextS toS at h
  unfold nextM
  rw [if_neg (by simp [h0])]
  cases hs : st.s with
  | nil => rw [hs] at h; cases h
  | cons x s =>
   rw [hs] at h
   cases h
   cases st
   simp only at h0
   subst h0
   rfl
 ·unfold nextS toS at h
  unfold nextM
  rw [if_neg (by simp [h0])]
  cases hs : st.s with
  | nil => rw [hs] at h; cases h; exact ⟨rfl, by decide⟩
  | cons x s => rw [hs] at h; cases h
 ·unfold nextM
  rw [if_pos h]
theorem rdQ_rest {most : Nat} : ∀ (s : B) (i n a : Nat) (r : B), rdF most i n s = .ok (a, r) → rdQ i s = r
 | [], _, _, _, _, h => by unfold rdF at h; cases h
 | x :: s, i, n, a, r, h => by
  unfold rdF at h
  unfold rdQ
  split at h
  ·cases h
  rename_i h1
  rw [if_neg h1]
  split at h
  ·rename_i h2
   rw [if_pos h2]
   split at h
   ·cases h; rfl
   ·cases h
  ·rename_i h2
   rw [if_neg h2]
   exact rdQ_rest s _ _ a r h
theorem rdF_err {most : Nat} : ∀ (s : B) (i n : Nat) (e : Int), rdF most i n s = .error e → e ≠ 0
 | [], _, _, _, h => by unfold rdF at h; cases h; decide
 | x :: s, i, n, e, h => by
  unfold rdF at h
  split at h
  ·cases h; decide
  split at h
  ·split at h
   ·cases h
   ·cases h; decide
  ·exact rdF_err s _ _ e h
theorem Ref.num (most : Nat) : Ref (numS most) (numM most) := by
 refine ⟨fun st a st' h0 h => ?_, fun st e h0 h => ?_, fun st h => ?_⟩
 ·unfold numS toS at h
  simp only at h
  unfold numM
  rw [if_neg (by simp [h0])]
  cases hr : rd most st.s with
  | error e => rw [hr] at h; cases h
  | ok p =>
   obtain ⟨n, r⟩ := p
   rw [hr] at h
   cases h
   have := rdQ_rest st.s 0 0 _ _ hr
   simp only
   rw [this]
   cases st
   simp only at h0
   subst h0
   rfl
 ·unfold numS toS at h
  simp only at h
  unfold numM
  rw [if_neg (by simp [h0])]
  cases hr : rd most st.s with
  | error e1 => rw [hr] at h; cases h; exact ⟨rfl, rdF_err _ _ _ _ hr⟩
  | ok p => rw [hr] at h; cases h
 ·unfold numM
  rw [if_pos h]
theorem num_dead {most : Nat} {st : PS} (h : st.e ≠ 0) : numM most st = (0, st) := by unfold numM; rw [if_pos h]
theorem textS_eq (most : Nat) : textS most = fun st => bnd (numS maxN st) fun n st => if most < n then .error 4 else if st.s.length < n then .error 14 else .ok (st.s.take n, { st with s := st.s.drop n }) := by
 funext st
 unfold textS rdT numS
 cases rd maxN st.s with
 | error e => rfl
 | ok p =>
  obtain ⟨n, r⟩ := p
  simp only [bnd]
  by_cases h1 : most < n
  ·rw [if_pos h1, if_pos h1]
  ·rw [if_neg h1, if_neg h1]
   by_cases h2 : r.length < n
   ·rw [if_pos h2, if_pos h2]
   ·rw [if_neg h2, if_neg h2]
theorem Ref.err4 {α : Type} {G : St → Except Int (α × St)} {N : PS → α × PS} (h : ∀ st, G st = .error 4) (hN : ∀ st, st.e = 0 → (N st).2.e = 4) (hd : ∀ st, st.e ≠ 0 → (N st).2.e = st.e) : Ref G N :=
 ⟨(fun st a st' _ e => by rw [h] at e; cases e), (fun st e h0 he => by rw [h] at he; cases he; exact ⟨hN st h0, by decide⟩), hd⟩
theorem Ref.text (most : Nat) : Ref (textS most) (textM most) := by
 rw [textS_eq]
 refine Ref.bnd (Ref.num maxN) (G := fun n st => if most < n then .error 4 else if st.s.length < n then .error 14 else .ok (st.s.take n, { st with s := st.s.drop n }))
  (N := fun n st => if st.e ≠ 0 then (([] : B), st) else if most < n then ([], { st with e := 4 }) else if st.s.length < n then ([], { st with e := 14 }) else (st.s.take n, { st with s := st.s.drop n }))
  (fun n => ⟨fun st a st' h0 h => ?_, fun st e h0 h => ?_, fun st h => ?_⟩) (fun n st h => ?_)
 ·rw [if_neg (by simp [h0])]
  split at h
  ·cases h
  rename_i h1
  split at h
  ·cases h
  rename_i h2
  cases h
  have h3 : ¬ st.s.length < n := h2
  rw [if_neg h1, if_neg h3]
  cases st
  simp only at h0
  subst h0
  rfl
 ·rw [if_neg (by simp [h0])]
  split at h
  ·rename_i h1
   cases h
   rw [if_pos h1]
   exact ⟨rfl, by decide⟩
  rename_i h1
  split at h
  ·rename_i h2
   cases h
   have h3 : st.s.length < n := h2
   rw [if_neg h1, if_pos h3]
   exact ⟨rfl, by decide⟩
  ·cases h
 ·rw [if_pos h]
 ·rw [if_pos h]
theorem Ref.sym (x : UInt8) : Ref (symS x) (symM x) := by
 by_cases h58 : x = 58
 ·subst h58
  have e1 : symS 58 = fun st => Marshal.bnd (textS 40 st) fun t st => if t ∈ st.ss then .error 4 else .ok (t, { st with ss := st.ss ++ [t] }) := by
   funext st
   unfold symS rdSym textS
   rw [if_neg (by decide), if_pos rfl]
   cases rdT 40 st.s with
   | error e => rfl
   | ok p =>
    obtain ⟨t, r⟩ := p
    simp only
    by_cases h : t ∈ st.ss
    ·rw [if_pos h]
     show _ = if t ∈ st.ss then _ else _
     rw [if_pos h]
    ·rw [if_neg h]
     show _ = if t ∈ st.ss then _ else _
     rw [if_neg h]
  rw [e1]
  refine Ref.bnd (Ref.text 40) (N := fun t st => (t, { (if st.e = 0 ∧ t ∈ st.ss then failM st 4 else st) with ss := st.ss ++ [t] })) (fun t => ⟨fun st a st' h0 h => ?_, fun st e h0 h => ?_, fun st h => ?_⟩) (fun t st h => ?_)
  ·by_cases hm : t ∈ st.ss
   ·have hm2 : t ∈ (toS st).ss := hm
    rw [if_pos hm2] at h; cases h
   ·have hm2 : t ∉ (toS st).ss := hm
    rw [if_neg hm2] at h
    cases h
    rw [if_neg (by simp [hm])]
    cases st
    simp only at h0
    subst h0
    rfl
  ·by_cases hm : t ∈ st.ss
   ·have hm2 : t ∈ (toS st).ss := hm
    rw [if_pos hm2] at h
    cases h
    rw [if_pos ⟨h0, hm⟩]
    exact ⟨fail_e h0 4, by decide⟩
   ·have hm2 : t ∉ (toS st).ss := hm
    rw [if_neg hm2] at h; cases h
  ·rw [if_neg (by simp [h])]
  ·rw [if_neg (by simp [h])]
 ·by_cases h59 : x = 59
  ·subst h59
   have e1 : symS 59 = fun st => Marshal.bnd (numS maxN st) fun k st => match st.ss[k]? with
     | some t => .ok (t, st)
     | none => .error 4 := by
    funext st
    unfold symS rdSym numS
    rw [if_pos rfl]
    cases rd maxN st.s with
    | error e => rfl
    | ok p =>
     obtain ⟨k, r⟩ := p
     simp only
     show _ = (match st.ss[k]? with
      | some t => .ok (t, ⟨r, st.g, st.cells, st.ss⟩)
      | none => .error 4 : Except Int (B × St))
     cases st.ss[k]? with
     | none => rfl
     | some t => rfl
   rw [e1]
   have e2 : symM 59 = fun st => (fun k st => if st.e = 0 ∧ k < st.ss.length then (st.ss.getD k [], st) else ([], failM st 4)) (numM maxN st).1 (numM maxN st).2 := by
    funext st
    unfold symM
    rw [if_neg (by decide), if_pos rfl]
   rw [e2]
   refine Ref.bnd (Ref.num maxN) (G := fun k st => match st.ss[k]? with
     | some t => .ok (t, st)
     | none => .error 4) (N := fun k st => if st.e = 0 ∧ k < st.ss.length then (st.ss.getD k [], st) else ([], failM st 4)) (fun k => ⟨fun st a st' h0 h => ?_, fun st e h0 h => ?_, fun st h => ?_⟩) (fun k st h => ?_)
   ·cases hk : (toS st).ss[k]? with
    | none => rw [hk] at h; cases h
    | some t =>
     rw [hk] at h
     cases h
     have hk2 : st.ss[k]? = some a := hk
     have := (List.getElem?_eq_some_iff.1 hk2).1
     rw [if_pos ⟨h0, this⟩, ofS_toS h0, List.getD_eq_getElem?_getD, hk2]
     rfl
   ·cases hk : (toS st).ss[k]? with
    | none =>
     rw [hk] at h
     cases h
     have hk2 : st.ss[k]? = none := hk
     have := List.getElem?_eq_none_iff.1 hk2
     rw [if_neg (by omega)]
     exact ⟨fail_e h0 4, by decide⟩
    | some t => rw [hk] at h; cases h
   ·rw [if_neg (by simp [h])]
    exact fail_keep st 4 h
   ·rw [if_neg (by simp [h])]
    exact fail_keep st 4 h
  ·have e1 : symS x = fun _ => .error 4 := by
    funext st
    unfold symS rdSym
    rw [if_neg h59, if_neg h58]
   have e2 : symM x = fun st => ([], failM st 4) := by
    funext st
    unfold symM
    rw [if_neg h58, if_neg h59]
   rw [e1, e2]
   exact Ref.err4 (fun _ => rfl) (fun st h => fail_e h 4) (fun st h => fail_keep st 4 h)
end Go.Marshal
namespace Go.Marshal
open Go.Core
theorem next_dead {st : PS} (h : st.e ≠ 0) : nextM st = (0, st) := by unfold nextM; rw [if_pos h]
theorem sym_dead {st : PS} (h : st.e ≠ 0) : (symM 0 st).2 = st := by
 unfold symM
 rw [if_neg (by decide), if_neg (by decide), fail_dead h]
theorem sym_dead_e {x : UInt8} {st : PS} (h : st.e ≠ 0) : (symM x st).2.e = st.e := (Ref.sym x).dead st h
theorem Ref.items {f : St → Except Int (Int × St)} {g : PS → Int × PS} (hf : Ref f g) : ∀ (n : Nat) (l : List Int), Ref (itemsA f n l) (itemsM g n l)
 | 0, l => Ref.ret l
 | n + 1, l => by
  have h := Ref.bnd hf (G := fun i st => itemsA f n (l ++ [i]) st) (N := fun i st => itemsM g n (l ++ [i]) st) (fun i => Ref.items hf n (l ++ [i])) (fun i st hd => (Ref.items hf n (l ++ [i])).dead st hd)
  refine ⟨fun st a st' h0 hs => ?_, fun st e h0 hs => ?_, fun st hd => ?_⟩
  ·have := h.ok st a st' h0 hs
   unfold itemsM
   rw [if_pos h0]
   exact this
  ·have := h.err st e h0 hs
   unfold itemsM
   rw [if_pos h0]
   exact this
  ·unfold itemsM
   rw [if_neg hd]
theorem Ref.guard {P : Prop} [Decidable P] {β : Type} {G : St → Except Int (β × St)} {N : PS → β × PS} (hG : Ref G N) (hd : ∀ st, st.e ≠ 0 → (N st).2.e = st.e) : Ref (fun st => if P then G st else .error 4) (fun st => N (if st.e = 0 ∧ ¬ P then failM st 4 else st)) := by
 refine ⟨fun st a st' h0 h => ?_, fun st e h0 h => ?_, fun st h => ?_⟩
 ·by_cases hp : P
  ·rw [if_pos hp] at h
   rw [if_neg (by simp [hp])]
   exact hG.ok st a st' h0 h
  ·rw [if_neg hp] at h; cases h
 ·by_cases hp : P
  ·rw [if_pos hp] at h
   rw [if_neg (by simp [hp])]
   exact hG.err st e h0 h
  ·rw [if_neg hp] at h
   cases h
   rw [if_pos ⟨h0, hp⟩]
   have := hd (failM st 4) (by rw [fail_e h0]; decide)
   rw [this, fail_e h0]
   exact ⟨rfl, by decide⟩
 ·rw [if_neg (by simp [h])]
  exact hd st h
theorem Ref.attrs {f : St → Except Int (Int × St)} {g : PS → Int × PS} (hf : Ref f g) : ∀ (n : Nat) (ns : List B) (l : List Int), Ref (attrsA f n ns l) (attrsM g n ns l)
 | 0, ns, l => Ref.ret (ns, l)
 | n + 1, ns, l => by
  have h := Ref.bnd Ref.next (G := fun x st => Marshal.bnd (symS x st) fun t st => if Go.Scan.iiB t = true ∧ t ∉ ns then Marshal.bnd (f st) fun i st => attrsA f n (ns ++ [t]) (l ++ [i]) st else .error 4)
   (N := fun x st => (fun t st => (fun st => attrsM g n (ns ++ [t]) (l ++ [(g st).1]) (g st).2) (if st.e = 0 ∧ ¬ (Go.Scan.iiB t = true ∧ t ∉ ns) then failM st 4 else st)) (symM x st).1 (symM x st).2)
   (fun x => Ref.bnd (Ref.sym x) (fun t => Ref.guard (Ref.bnd hf (fun i => Ref.attrs hf n (ns ++ [t]) (l ++ [i])) (fun i st hd => (Ref.attrs hf n (ns ++ [t]) (l ++ [i])).dead st hd)) (fun st hd => by
    rw [(Ref.attrs hf n (ns ++ [t]) (l ++ [(g st).1])).dead _ (by rw [hf.dead st hd]; exact hd), hf.dead st hd]))
    (fun t st hd => by
     rw [if_neg (by simp [hd])]
     rw [(Ref.attrs hf n (ns ++ [t]) (l ++ [(g st).1])).dead _ (by rw [hf.dead st hd]; exact hd), hf.dead st hd]))
   (fun x st hd => by
    have h1 := sym_dead_e (x := x) hd
    simp only
    rw [if_neg (by simp [h1, hd])]
    rw [(Ref.attrs hf n _ _).dead _ (by rw [hf.dead _ (by rw [h1]; exact hd), h1]; exact hd), hf.dead _ (by rw [h1]; exact hd), h1])
  have key : ∀ st : PS, st.e = 0 → attrsM g (n + 1) ns l st = (fun x st => (fun t st => (fun st => attrsM g n (ns ++ [t]) (l ++ [(g st).1]) (g st).2) (if st.e = 0 ∧ ¬ (Go.Scan.iiB t = true ∧ t ∉ ns) then failM st 4 else st)) (symM x st).1 (symM x st).2) (nextM st).1 (nextM st).2 := fun st h0 => by
   conv => lhs; unfold attrsM
   rw [if_pos h0]
   have e : (nameM ns st).2 = if (symM (nextM st).1 (nextM st).2).2.e = 0 ∧ ¬ (Go.Scan.iiB (symM (nextM st).1 (nextM st).2).1 = true ∧ (symM (nextM st).1 (nextM st).2).1 ∉ ns) then failM (symM (nextM st).1 (nextM st).2).2 4 else (symM (nextM st).1 (nextM st).2).2 := by
    unfold nameM
    simp only
    by_cases h1 : (symM (nextM st).1 (nextM st).2).2.e = 0 ∧ ((symM (nextM st).1 (nextM st).2).1 ∈ ns ∨ Go.Scan.iiB (symM (nextM st).1 (nextM st).2).1 = false)
    ·rw [if_pos h1, if_pos]
     refine ⟨h1.1, fun h2 => ?_⟩
     rcases h1.2 with h3 | h3
     ·exact h2.2 h3
     ·rw [h2.1] at h3; cases h3
    ·rw [if_neg h1, if_neg]
     rintro ⟨h2, h3⟩
     refine h1 ⟨h2, ?_⟩
     by_cases h4 : (symM (nextM st).1 (nextM st).2).1 ∈ ns
     ·exact .inl h4
     ·refine .inr ?_
      cases h5 : Go.Scan.iiB (symM (nextM st).1 (nextM st).2).1 with
      | false => rfl
      | true => exact absurd ⟨h5, h4⟩ h3
   rw [e]
   rfl
  refine ⟨fun st a st' h0 hs => ?_, fun st e h0 hs => ?_, fun st hd => ?_⟩
  ·rw [key st h0]
   exact h.ok st a st' h0 hs
  ·rw [key st h0]
   exact h.err st e h0 hs
  ·unfold attrsM
   rw [if_neg hd]
theorem attrs_dead {g : PS → Int × PS} (n : Nat) (ns : List B) (l : List Int) {st : PS} (h : st.e ≠ 0) : attrsM g n ns l st = ((ns, l), st) := by
 cases n with
 | zero => rfl
 | succ n => unfold attrsM; rw [if_neg h]
theorem items_dead {g : PS → Int × PS} (n : Nat) (l : List Int) {st : PS} (h : st.e ≠ 0) : itemsM g n l st = (l, st) := by
 cases n with
 | zero => rfl
 | succ n => unfold itemsM; rw [if_neg h]
theorem Ref.inner {f : St → Except Int (Int × St)} {g : PS → Int × PS} (hf : Ref f g) {x : UInt8} (hx : x ∈ begins) : Ref (innerF f x) (innerM g x) := by
 have hnum : ∀ m, Ref (numS m) (numM m) := Ref.num
 unfold begins at hx
 simp only [List.mem_cons, List.not_mem_nil, or_false] at hx
 rcases hx with rfl | rfl | rfl | rfl | rfl | rfl | rfl | rfl | rfl | rfl
 ·exact Ref.ret _
 ·exact Ref.ret _
 ·exact Ref.ret _
 ·exact (Ref.num (2 * maxN)).map fun n => (⟨3, unsgn n, [], [], []⟩ : Cell)
 ·exact (Ref.text maxN).map fun t => (⟨4, 0, t, [], []⟩ : Cell)
 ·exact (Ref.sym 58).map fun t => (⟨5, 0, t, [], []⟩ : Cell)
 ·exact (Ref.sym 59).map fun t => (⟨5, 0, t, [], []⟩ : Cell)
 ·exact Ref.bnd (Ref.num maxN) (N := fun n st => ((⟨6, 0, [], [], (itemsM g n [] st).1⟩ : Cell), (itemsM g n [] st).2)) (fun n => (Ref.items hf n []).map fun l => (⟨6, 0, [], [], l⟩ : Cell)) (fun n st hd => by rw [items_dead n [] hd])
 ·exact Ref.bnd (Ref.num maxN) (N := fun n st => ((⟨7, 0, [], [], (itemsM g (2 * n) [] st).1⟩ : Cell), (itemsM g (2 * n) [] st).2)) (fun n => (Ref.items hf (2 * n) []).map fun l => (⟨7, 0, [], [], l⟩ : Cell)) (fun n st hd => by rw [items_dead _ [] hd])
 ·have h := Ref.bnd Ref.next (G := fun y st => Marshal.bnd (symS y st) fun t st => if Go.Scan.icB t = true then Marshal.bnd (numS maxN st) fun n st => Marshal.bnd (attrsA f n [] [] st) fun p st => .ok ((⟨8, 0, t, p.1, p.2⟩ : Cell), st) else .error 4)
   (N := fun y st => (fun t st => (fun st => (fun n st => ((⟨8, 0, t, (attrsM g n [] [] st).1.1, (attrsM g n [] [] st).1.2⟩ : Cell), (attrsM g n [] [] st).2)) (numM maxN st).1 (numM maxN st).2) (if st.e = 0 ∧ ¬ (Go.Scan.icB t = true) then failM st 4 else st)) (symM y st).1 (symM y st).2)
   (fun y => Ref.bnd (Ref.sym y) (fun t => Ref.guard (Ref.bnd (Ref.num maxN) (fun n => (Ref.attrs hf n [] []).map fun p => (⟨8, 0, t, p.1, p.2⟩ : Cell)) (fun n st hd => by rw [attrs_dead n [] [] hd])) (fun st hd => by rw [num_dead hd, attrs_dead _ _ _ hd]))
    (fun t st hd => by
     rw [if_neg (by simp [hd]), num_dead hd, attrs_dead _ _ _ hd]))
   (fun y st hd => by
    have h1 := sym_dead_e (x := y) hd
    simp only
    rw [if_neg (by simp [h1, hd]), num_dead (by rw [h1]; exact hd), attrs_dead _ _ _ (by rw [h1]; exact hd), h1])
  have e : innerM g 111 = fun st => (fun y st => (fun t st => (fun st => (fun n st => ((⟨8, 0, t, (attrsM g n [] [] st).1.1, (attrsM g n [] [] st).1.2⟩ : Cell), (attrsM g n [] [] st).2)) (numM maxN st).1 (numM maxN st).2) (if st.e = 0 ∧ ¬ (Go.Scan.icB t = true) then failM st 4 else st)) (symM y st).1 (symM y st).2) (nextM st).1 (nextM st).2 := by
   funext st
   show objM g st = _
   unfold objM
   have e2 : (classM st).2 = if (symM (nextM st).1 (nextM st).2).2.e = 0 ∧ ¬ (Go.Scan.icB (symM (nextM st).1 (nextM st).2).1 = true) then failM (symM (nextM st).1 (nextM st).2).2 4 else (symM (nextM st).1 (nextM st).2).2 := by
    unfold classM
    simp only [Bool.not_eq_true]
   rw [e2]
   rfl
  rw [e]
  exact h
end Go.Marshal
namespace Go.Marshal
open Go.Core
theorem head_ok : ∀ (hs s r : B), headF hs s = .ok r → s = hs ++ r
 | [], s, r, h => by cases h; rfl
 | x :: hs, [], r, h => by cases h
 | x :: hs, y :: s, r, h => by
  unfold headF at h
  split at h
  ·rename_i e
   rw [e, head_ok hs s r h]
   rfl
  ·cases h
end Go.Marshal
