/-
  Lemmas (MC3 MP3 MP4 MP5 MP6 MP7 MP8 MC4 MP9 MP10 MC5 MC7 MD1 MD2 MD3).
-/
import Derived.Test.YtgogonnnojcioaaGreatDoorMdu6
set_option linter.unusedVariables false
set_option linter.unusedSimpArgs false
/-
  Contracts: the strings.Builder within a writer of one's own (marshal).
-/
namespace Go.Proofs.YtgogonnnojcioaaGreatDoor
open Go.AX Go.RowKit Go.Core Go.Marshal
set_option maxRecDepth 20000

/-- What the Builder's first cell holds: nothing, or its own address, within the writer. -/
def bM (u : Bool) : CV := match u with | true => .lp 0 1 | false => .v (.pointer none)
/-- What the writer's maps hold. -/
structure MapP where
  ce : Array MapEntry
  cc : Nat
  se : Array MapEntry
  sc : Nat
def wM (gv : Value) (F : World → Prop) (u : Bool) (out : List UInt8) (i : BSt) (mb sb : Nat) (q : MapP) : List Ent :=
  [.blk 69 [.v gv, bM u, .v (.slice (at0 i.ob) out.length i.cap), .v (.map (some mb)), .v (.map (some sb))], .app 5 1 (u8s out) (at0 i.ob) out.length i.cap, .mp mb q.ce q.cc, .mp sb q.se q.sc, .fact F]
theorem wM_ok (gv : Value) (F : World → Prop) (u : Bool) (out : List UInt8) (i : BSt) (mb sb : Nat) (q : MapP) : okH (wM gv F u out i mb sb q).length (wM gv F u out i mb sb q) := by cases u <;> exact okHB_eq rfl
variable (gv : Value) (F : World → Prop) (mb sb : Nat) (q : MapP)

theorem copyCheck_m (u : Bool) (out : List UInt8) (i : BSt) : SpecH Tryz.prog 55 [.c (.lp 0 1)] (wM gv F u out i mb sb q) (RetG (ι := Unit) (fun _ => True) (fun _ => .tuple #[]) fun _ => wM gv F true out i mb sb q) := by
  refine ownC hm Tryz.func55 (by kernel_rfl) rfl rfl (fun _ _ => wM_ok _ _ _ _ _ _ _ _) (fun _ _ => Nat.le_refl _) ?_
  cases u with
  | false =>
    (first | refine wX ?_ | exact wZ)
    refine ReadW.toUnsafe 67 rfl (by kernel_rfl) (by kernel_rfl) (by kernel_rfl) rfl rfl (Nat.succ_lt_succ (Nat.zero_lt_succ _)) ?_
    (first | refine wX ?_ | exact wZ)
    refine EffW.ext (e := Extern.AbiNoEscape.same) rfl Tryz.func82 (by kernel_rfl) (by kernel_rfl) (by kernel_rfl) (by kernel_rfl) (.c (.lp 0 1)) ?_ ?_
    · (first | refine wX ?_ | exact wZ)
      refine ReadW.fromUnsafe 67 rfl (by kernel_rfl) (by kernel_rfl) (by kernel_rfl) rfl rfl (by show liesAt _ _ _ (5 / _) _ _ _ = true; kernel_rfl) ?_
      (first | refine wX ?_ | exact wZ)
      exact ⟨(), trivial, rfl, wkH_refl _⟩
    · intro ρ vs hr
      match vs, hr with
      | [v], hr => exact ⟨v, hr.1, fun w => rfl⟩
      | [], hr => exact hr.elim
      | _ :: _ :: _, hr => exact hr.2.elim
  | true =>
    (first | refine wX ?_ | exact wZ)
    refine ReadW.lp_nil rfl (by kernel_rfl) rfl rfl false (.inl ⟨rfl, rfl⟩) ?_
    (first | refine wX ?_ | exact wZ)
    refine ReadW.lp_same rfl (by kernel_rfl) rfl rfl false (.inr ⟨rfl, rfl⟩) ?_
    (first | refine wX ?_ | exact wZ)
    exact ⟨(), trivial, rfl, wkH_refl _⟩
theorem WriteString_m (u : Bool) (l x : List UInt8) (i0 : BSt) (ok : i0.ok l.length) (room : l.length + x.length ≤ 140737488355328) : SpecH Tryz.prog 34 [.c (.lp 0 1), .c (.v (.string (bs x)))] (wM gv F u l i0 mb sb q)
    (RetG (ι := BSt) (fun i => i.ok (l ++ x).length) (fun _ => .tuple #[.int .i64 x.length, .nilIface]) fun i => wM gv F true (l ++ x) i mb sb q) := by
  refine ownC hm Tryz.func34 (by kernel_rfl) rfl rfl (fun _ _ => wM_ok _ _ _ _ _ _ _ _) (fun _ _ => Nat.le_refl _) ?_
  cases u with
  | false =>
    (first | refine wX ?_ | exact wZ)
    refine callG (copyCheck_m gv F mb sb q false l i0) [0, 1, 2, 3, 4] rfl ⟨rfl, rfl, rfl, rfl, rfl, trivial⟩ rfl fun _ _ => ?_
    (first | refine wX ?_ | exact wZ)
    refine EffW.appStr 1 rfl rfl rfl (by kernel_rfl) (by kernel_rfl) (by kernel_rfl) rfl rfl rfl (by rw [bs_size]; exact room) fun ob' cap' h1 h2 h3 => ?_
    rw [bs_size, bs_list] at *
    (first | refine wX ?_ | exact wZ)
    refine ⟨⟨ob', cap'⟩, ⟨by simpa using h1, by simpa using h2, fun h => ?_⟩, by rw [bs_size], ?_⟩
    · obtain ⟨h4, h5⟩ := h3 h
      have := ok.2.2 h4
      rw [this] at h5
      cases ob' with
      | none => rfl
      | some _ => cases h5
    · exact wkH_of_eq (by simp [wM, u8s, bM, rnC, rnCs, rnI, rnE])
  | true =>
    (first | refine wX ?_ | exact wZ)
    refine callG (copyCheck_m gv F mb sb q true l i0) [0, 1, 2, 3, 4] rfl ⟨rfl, rfl, rfl, rfl, rfl, trivial⟩ rfl fun _ _ => ?_
    (first | refine wX ?_ | exact wZ)
    refine EffW.appStr 1 rfl rfl rfl (by kernel_rfl) (by kernel_rfl) (by kernel_rfl) rfl rfl rfl (by rw [bs_size]; exact room) fun ob' cap' h1 h2 h3 => ?_
    rw [bs_size, bs_list] at *
    (first | refine wX ?_ | exact wZ)
    refine ⟨⟨ob', cap'⟩, ⟨by simpa using h1, by simpa using h2, fun h => ?_⟩, by rw [bs_size], ?_⟩
    · obtain ⟨h4, h5⟩ := h3 h
      have := ok.2.2 h4
      rw [this] at h5
      cases ob' with
      | none => rfl
      | some _ => cases h5
    · exact wkH_of_eq (by simp [wM, u8s, bM, rnC, rnCs, rnI, rnE])
theorem String_m (u : Bool) (l : List UInt8) (i0 : BSt) (ok : i0.ok l.length) : SpecH Tryz.prog 36 [.c (.lp 0 1)] (wM gv F u l i0 mb sb q)
    (RetG (ι := Unit) (fun _ => True) (fun _ => .string (bs l)) fun _ => [.dead, .dead, .dead, .dead, .fact F]) := by
  refine ownC hm Tryz.func36 (by kernel_rfl) rfl rfl (fun _ _ => ⟨trivial, trivial, trivial, trivial, trivial, trivial⟩) (fun _ _ => Nat.le_refl _) ?_
  (first | refine wX ?_ | exact wZ)
  refine DrawN.plan [0, 5] [(1, 1), (2, 1), (3, 1), (4, 1), (6, 1), (7, 1), (8, 1), (9, 1)] [(10, 0), (11, 0)] (by decide +kernel) ?_
  (first | refine wX ?_ | exact wZ)
  refine ReadW.sliceData rfl rfl rfl (fun h h2 => h (ok.2.2 h2)) ?_
  (first | refine wX ?_ | exact wZ)
  refine EffW.usStr 1 l rfl rfl rfl rfl (by kernel_rfl) (by kernel_rfl) rfl rfl rfl ?_
  (first | refine wX ?_ | exact wZ)
  exact ⟨(), trivial, rfl, trivial, trivial, trivial, trivial, fun _ h => h, trivial⟩
theorem WriteByte_m (u : Bool) (l : List UInt8) (x : UInt8) (i0 : BSt) (room : l.length + 1 ≤ 140737488355328) : SpecH Tryz.prog 56 [.c (.lp 0 1), .c (.v (.int .u8 (x.toNat : Int)))] (wM gv F u l i0 mb sb q)
    (RetG (ι := BSt) (fun i => i.ok (l ++ [x]).length) (fun _ => .nilIface) fun i => wM gv F true (l ++ [x]) i mb sb q) := by
  refine ownC hm Tryz.func56 (by kernel_rfl) rfl rfl (fun _ _ => wM_ok _ _ _ _ _ _ _ _) (fun _ _ => Nat.le_refl _) ?_
  cases u with
  | false =>
    (first | refine wX ?_ | exact wZ)
    refine callG (copyCheck_m gv F mb sb q false l i0) [0, 1, 2, 3, 4] rfl ⟨rfl, rfl, rfl, rfl, rfl, trivial⟩ rfl fun _ _ => ?_
    (first | refine wX ?_ | exact wZ)
    refine Nd.mk ⟨by omega, rfl, rfl⟩ ?_
    (conv => whnf)
    refine AppN.grow 1 (u8s l) _ rfl rfl ⟨by omega, ⟨by show (_ + 1) * 1 ≤ _; omega, by omega⟩, by decide⟩ fun b' cap' h1 h2 => ?_
    (first | refine wX ?_ | exact wZ)
    have e1 : u8s l ++ [.int .u8 (x.toNat : Int)] = u8s (l ++ [x]) := by simp [u8s]
    have e2 : l.length + 1 = (l ++ [x]).length := by simp
    rw [e1, e2]
    exact ⟨⟨some b', cap'⟩, ⟨(fun h => by cases h), by simpa using h1, fun h => by have h : cap' = 0 := h; omega⟩, rfl, wkE_refl _, wkE_refl _, wkE_refl _, wkE_refl _, wkE_refl _, trivial⟩
  | true =>
    (first | refine wX ?_ | exact wZ)
    refine callG (copyCheck_m gv F mb sb q true l i0) [0, 1, 2, 3, 4] rfl ⟨rfl, rfl, rfl, rfl, rfl, trivial⟩ rfl fun _ _ => ?_
    (first | refine wX ?_ | exact wZ)
    refine Nd.mk ⟨by omega, rfl, rfl⟩ ?_
    (conv => whnf)
    refine AppN.grow 1 (u8s l) _ rfl rfl ⟨by omega, ⟨by show (_ + 1) * 1 ≤ _; omega, by omega⟩, by decide⟩ fun b' cap' h1 h2 => ?_
    (first | refine wX ?_ | exact wZ)
    have e1 : u8s l ++ [.int .u8 (x.toNat : Int)] = u8s (l ++ [x]) := by simp [u8s]
    have e2 : l.length + 1 = (l ++ [x]).length := by simp
    rw [e1, e2]
    exact ⟨⟨some b', cap'⟩, ⟨(fun h => by cases h), by simpa using h1, fun h => by have h : cap' = 0 := h; omega⟩, rfl, wkE_refl _, wkE_refl _, wkE_refl _, wkE_refl _, wkE_refl _, trivial⟩
end Go.Proofs.YtgogonnnojcioaaGreatDoor

/-
  Plain: reading cells looks at no byte behind; what is cut ends too soon; the purse does not matter.
-/
namespace Go.Marshal
open Go.Core

def cutS (st : St) (t : B) : St := { st with s := t }
def LocS {α : Type} (F : St → Except Int (α × St)) : Prop := ∀ st a st', F st = .ok (a, st') → ∃ u, st.s = u ++ st'.s ∧ (∀ t, F (cutS st (u ++ t)) = .ok (a, cutS st' t)) ∧ ∀ v w, u = v ++ w → w ≠ [] → F (cutS st v) = .error 14
theorem LocS.ret {α : Type} (a : α) : LocS fun st => .ok (a, st) := fun st a' st' h => by
  cases h
  exact ⟨[], rfl, fun _ => rfl, fun v w e hw => absurd (List.append_eq_nil_iff.1 e.symm).2 hw⟩
theorem LocS.bnd {α β : Type} {F : St → Except Int (α × St)} {G : α → St → Except Int (β × St)} (hF : LocS F) (hG : ∀ a, LocS (G a)) : LocS fun st => bnd (F st) G := by
  intro st b st2 h
  cases hf : F st with
  | error e => simp only [hf] at h; cases h
  | ok p =>
    obtain ⟨a, st1⟩ := p
    simp only [hf] at h
    obtain ⟨u, e1, e2, e3⟩ := hF st a st1 hf
    obtain ⟨v, f1, f2, f3⟩ := hG a st1 b st2 h
    refine ⟨u ++ v, by rw [e1, f1, List.append_assoc], fun t => ?_, fun x w e hw => ?_⟩
    · show Marshal.bnd (F _) G = _
      rw [List.append_assoc, e2]
      exact f2 t
    · rcases app_cut e with ⟨z, hz, hz2⟩ | ⟨z, hz, hz2⟩
      · show Marshal.bnd (F _) G = _
        rw [e3 x z hz hz2]
        rfl
      · show Marshal.bnd (F _) G = _
        rw [hz, e2]
        exact f3 z w hz2 hw
theorem LocS.next : LocS nextS := by
  intro st a st' h
  unfold nextS at h
  split at h
  · cases h
  · rename_i x s hs
    cases h
    refine ⟨[a], hs, fun _ => rfl, fun v w e hw => ?_⟩
    cases v with
    | nil => rfl
    | cons y v =>
      injection e with _ e
      exact absurd (List.append_eq_nil_iff.1 e.symm).2 hw
theorem LocS.num (most : Nat) : LocS (numS most) := by
  intro st a st' h
  unfold numS at h
  split at h
  · cases h
  · rename_i n r hr
    cases h
    obtain ⟨u, e1, e2, e3⟩ := rd_loc most _ _ _ hr
    refine ⟨u, e1, fun t => ?_, fun v w e hw => ?_⟩
    · unfold numS cutS
      simp only [e2]
    · unfold numS cutS
      simp only [e3 v w e hw]
theorem LocS.text (most : Nat) : LocS (textS most) := by
  intro st a st' h
  unfold textS at h
  split at h
  · cases h
  · rename_i n r hr
    cases h
    obtain ⟨u, e1, e2, e3⟩ := rdT_loc most _ _ _ hr
    refine ⟨u, e1, fun t => ?_, fun v w e hw => ?_⟩
    · unfold textS cutS
      simp only [e2]
    · unfold textS cutS
      simp only [e3 v w e hw]
theorem LocS.sym (x : UInt8) : LocS (symS x) := by
  intro st a st' h
  unfold symS at h
  split at h
  · cases h
  · rename_i t ss r hr
    cases h
    obtain ⟨u, e1, e2, e3⟩ := rdSym_loc x st.ss _ _ _ _ hr
    refine ⟨u, e1, fun t => ?_, fun v w e hw => ?_⟩
    · unfold symS cutS
      simp only [e2]
    · unfold symS cutS
      simp only [e3 v w e hw]
theorem LocS.items {f : St → Except Int (Int × St)} (hf : LocS f) : ∀ (n : Nat) (l : List Int), LocS (itemsA f n l)
  | 0, l => LocS.ret l
  | n + 1, l => LocS.bnd hf fun i => LocS.items hf n (l ++ [i])
/-- What does not look at the bytes. -/
theorem LocS.wrap {α β : Type} {F : St → Except Int (α × St)} (hF : LocS F) (o : St → St) (ho : ∀ st t, o (cutS st t) = cutS (o st) t) (hs : ∀ st, (o st).s = st.s)
    (k : St → α → β) (hk : ∀ st t a, k (cutS st t) a = k st a) (e : St → α → St → St) (he : ∀ st t a st', e (cutS st t) a st' = e st a st') (hes : ∀ st a st', (e st a st').s = st'.s) (hec : ∀ st a st' t, e st a (cutS st' t) = cutS (e st a st') t) :
    LocS fun st => Marshal.bnd (F (o st)) fun a st' => .ok (k st a, e st a st') := by
  intro st b st2 h
  cases hf : F (o st) with
  | error x => simp only [hf] at h; cases h
  | ok p =>
    obtain ⟨a, st1⟩ := p
    simp only [hf] at h
    cases h
    obtain ⟨u, e1, e2, e3⟩ := hF _ a st1 hf
    refine ⟨u, by rw [← hs st, e1, hes], fun t => ?_, fun v w ee hw => ?_⟩
    · show Marshal.bnd (F (o (cutS st (u ++ t)))) _ = _
      rw [ho, e2]
      show Except.ok _ = _
      rw [hk, he, hec]
    · show Marshal.bnd (F (o (cutS st v))) _ = _
      rw [ho, e3 v w ee hw]
      rfl
/-! ### The purse -/
theorem LocS.le {α : Type} {F : St → Except Int (α × St)} (h : LocS F) {st st' : St} {a : α} (e : F st = .ok (a, st')) : st'.s.length ≤ st.s.length := by
  obtain ⟨u, e1, _⟩ := h st a st' e
  rw [e1, List.length_append]; omega
end Go.Marshal

/-
  Plain: what writing leaves as it was, how much it writes.
-/
namespace Go.Marshal
open Go.Core

/-- One writer goes on from another one. -/
def Gone (w w' : Wr) : Prop := ∃ b cs ts, w' = ⟨w.out ++ b, w.cells ++ cs, w.ss ++ ts⟩
theorem Gone.refl (w : Wr) : Gone w w := ⟨[], [], [], by simp⟩
theorem Gone.trans {a b c : Wr} (h : Gone a b) (k : Gone b c) : Gone a c := by
  obtain ⟨x, y, z, rfl⟩ := h
  obtain ⟨p, q, r, rfl⟩ := k
  exact ⟨x ++ p, y ++ q, z ++ r, by simp⟩
theorem gone_put (w : Wr) (b : B) : Gone w (putW w b) := ⟨b, [], [], by simp [putW]⟩
theorem gone_sym (w : Wr) (t : B) : Gone w (symW w t) := by
  unfold symW
  split
  · exact gone_put w _
  · exact ⟨58 :: (num t.length ++ t), [], [t], by simp⟩
theorem gone_cell (w : Wr) (a : Int) : Gone w { w with cells := w.cells ++ [a] } := ⟨[], [a], [], by simp⟩
theorem gone_fold {α : Type} {f : Wr → α → Wr} (h : ∀ w x, Gone w (f w x)) : ∀ (l : List α) (w : Wr), Gone w (l.foldl f w)
  | [], w => Gone.refl w
  | x :: l, w => (h w x).trans (gone_fold h l (f w x))
theorem gone_write (g : List Cell) : ∀ (n : Nat) (w : Wr) (a : Int), Gone w (writeF g n w a)
  | 0, w, _ => Gone.refl w
  | n + 1, w, a => by
    unfold writeF
    simp only
    split
    · exact gone_put _ _
    split
    · exact gone_put _ _
    split
    · exact gone_put _ _
    split
    · exact gone_put _ _
    split
    · exact gone_sym _ _
    split
    · exact gone_put _ _
    refine (gone_cell w a).trans ?_
    split
    · exact gone_put _ _
    split
    · exact (gone_put _ _).trans (gone_fold (gone_write g n) _ _)
    split
    · exact (gone_put _ _).trans (gone_fold (gone_write g n) _ _)
    · refine (((gone_put _ _).trans (gone_sym _ _)).trans (gone_put _ _)).trans (gone_fold (fun w p => ?_) _ _)
      exact (gone_sym w p.1).trans (gone_write g n _ p.2)
theorem Gone.out {w w' : Wr} (h : Gone w w') : ∃ b, w'.out = w.out ++ b := by obtain ⟨b, _, _, rfl⟩ := h; exact ⟨b, rfl⟩
theorem Gone.sub {w w' : Wr} (h : Gone w w') : ∀ x ∈ w.cells, x ∈ w'.cells := by
  obtain ⟨_, cs, _, rfl⟩ := h
  exact fun x hx => List.mem_append_left _ hx
/-! ### A weight of the cells that were not written yet -/
def wgt (F : Cell → Nat) (g : List Cell) (cs : List Int) : Nat := (((List.range g.length).filter fun (k : Nat) => !decide ((k : Int) ∈ cs)).map fun (k : Nat) => F (at_ g (k : Int))).sum
theorem wgt_drop (F : Cell → Nat) (g : List Cell) (p q : Nat → Bool) (a : Nat) (hpq : ∀ k, q k = (p k && !decide (k = a))) (hp : p a = true) : ∀ l : List Nat, l.Nodup → a ∈ l → ((l.filter q).map fun (k : Nat) => F (at_ g (k : Int))).sum + F (at_ g (a : Int)) = ((l.filter p).map fun (k : Nat) => F (at_ g (k : Int))).sum
  | [], _, h => by cases h
  | x :: l, hn, hm => by
    have hn2 := List.nodup_cons.1 hn
    rw [List.filter_cons, List.filter_cons]
    by_cases e : x = a
    · subst e
      have hq : q x = false := by rw [hpq]; simp
      have hf : l.filter q = l.filter p := List.filter_congr fun k hk => by
        rw [hpq]
        have : k ≠ x := fun h => hn2.1 (h ▸ hk)
        simp [this]
      rw [hp, hq, hf, if_pos rfl, if_neg (by simp)]
      simp only [List.map_cons, List.sum_cons]; omega
    · have ih := wgt_drop F g p q a hpq hp l hn2.2 ((List.mem_cons.1 hm).resolve_left (fun h => e h.symm))
      have hq : q x = p x := by rw [hpq]; simp [e]
      rw [hq]
      split
      · simp only [List.map_cons, List.sum_cons]; omega
      · exact ih
theorem wgt_new {F : Cell → Nat} {g : List Cell} {cs : List Int} {a : Int} (ha : InI g a) (hn : a ∉ cs) : wgt F g (cs ++ [a]) + F (at_ g a) = wgt F g cs := by
  have e : ((a.toNat : Nat) : Int) = a := by have := ha.1; omega
  have := wgt_drop F g (fun (k : Nat) => !decide ((k : Int) ∈ cs)) (fun (k : Nat) => !decide ((k : Int) ∈ cs ++ [a])) a.toNat (fun k => by
    have : (k = a.toNat) ↔ ((k : Int) = a) := by have := ha.1; omega
    rw [decide_eq_decide.2 this, ← Bool.not_or, ← Bool.decide_or]
    simp only [List.mem_append, List.mem_singleton]) (by simp only [e]; simp [hn]) (List.range g.length) List.nodup_range (List.mem_range.2 (by have := ha.1; have := ha.2; omega))
  rw [e] at this
  exact this
theorem wgt_le {F : Cell → Nat} {g : List Cell} {m : Nat} (h : ∀ i, InI g i → F (at_ g i) ≤ m) (cs : List Int) : wgt F g cs ≤ g.length * m := by
  have key : ∀ l : List Nat, (∀ k ∈ l, F (at_ g (k : Int)) ≤ m) → (l.map fun (k : Nat) => F (at_ g (k : Int))).sum ≤ l.length * m := by
    intro l
    induction l with
    | nil => exact fun _ => Nat.zero_le _
    | cons x l ih =>
      intro hl
      have h1 := hl x (by simp)
      have h2 := ih fun k hk => hl k (by simp [hk])
      rw [List.map_cons, List.sum_cons, List.length_cons, Nat.succ_mul]
      omega
  refine Nat.le_trans (key _ fun k hk => h _ ?_) (Nat.mul_le_mul_right m ?_)
  · have := List.mem_range.1 (List.mem_filter.1 hk).1
    exact ⟨by omega, by omega⟩
  · refine Nat.le_trans (List.length_filter_le _ _) ?_
    rw [List.length_range]
    exact Nat.le_refl _

/-! ### What a valid graph has -/
/-- What is asked of the cells that are written. -/
structure CellW (K : Nat) (c : Cell) : Prop where
  kind : 0 ≤ c.kind ∧ c.kind ≤ 8
  num : c.kind = 3 → -(maxN : Int) ≤ c.num ∧ c.num ≤ (maxN : Int)
  num0 : c.kind ≠ 3 → c.num = 0
  text : c.text.length ≤ 2000 ∧ c.text.length + 30 ≤ K
  sym : c.kind = 5 → c.text.length ≤ 40
  cls : c.kind = 8 → Go.Scan.icB c.text = true ∧ c.text.length ≤ 40
  text0 : c.kind ≠ 4 → c.kind ≠ 5 → c.kind ≠ 8 → c.text = []
  leaf : c.kind ≤ 5 → c.items = [] ∧ c.names = []
  nam0 : c.kind ≠ 8 → c.names = []
  even : c.kind = 7 → c.items.length % 2 = 0
  lens : c.kind = 8 → c.names.length = c.items.length
  dup : c.names.Nodup
  nam : ∀ t ∈ c.names, Go.Scan.iiB t = true ∧ t.length ≤ 40
  len : c.items.length ≤ 2000
theorem put_len (w : Wr) (b : B) : (putW w b).out.length = w.out.length + b.length := by unfold putW; simp
theorem sym_len (w : Wr) (t : B) (ht : t.length ≤ 2000) (hs : w.ss.length ≤ maxN) : (symW w t).out.length ≤ w.out.length + (t.length + 10) := by
  have hm : maxN = 1000000000000000 := rfl
  unfold symW
  split
  · rename_i h
    have := List.idxOf_lt_length_iff.2 h
    have := num_len (n := w.ss.idxOf t) (by omega)
    rw [put_len]
    simp only [List.length_cons]; omega
  · have := num_len (n := t.length) (by omega)
    simp only [List.length_append, List.length_cons]; omega
/-- What a writer has is few. -/
def Few (w : Wr) : Prop := w.ss.length ≤ maxN ∧ w.cells.length ≤ maxN
theorem Gone.few {w w' : Wr} (h : Gone w w') (k : Few w') : Few w := by
  obtain ⟨_, cs, ts, rfl⟩ := h
  have h1 := k.1
  have h2 := k.2
  simp only [List.length_append] at h1 h2
  exact ⟨by omega, by omega⟩
theorem fold_out {α : Type} {f : Wr → α → Wr} {Φ : Wr → Nat} {c : Nat} (hf : ∀ w x, Gone w (f w x)) : ∀ (l : List α) (w : Wr), (∀ w, ∀ x ∈ l, Few (f w x) → (f w x).out.length + Φ (f w x) ≤ w.out.length + Φ w + c) → Few (l.foldl f w) → (l.foldl f w).out.length + Φ (l.foldl f w) ≤ w.out.length + Φ w + c * l.length
  | [], w, _, _ => by simp
  | x :: l, w, h, hM => by
    rw [List.foldl_cons] at hM ⊢
    have h0 := (gone_fold hf l (f w x)).few hM
    have h1 := h w x (by simp) h0
    have h2 := fold_out hf l (f w x) (fun w y hy => h w y (by simp [hy])) hM
    rw [List.length_cons, Nat.mul_add]; omega
def iN (c : Cell) : Nat := c.items.length + c.names.length
theorem put_cells (w : Wr) (b : B) : (putW w b).cells = w.cells := rfl
theorem sym_cells (w : Wr) (t : B) : (symW w t).cells = w.cells := by
  unfold symW
  split <;> rfl
theorem write_len {g : List Cell} {K : Nat} (hg : InG g) (hc : ∀ i, InI g i → CellW K (at_ g i)) (hK : 60 ≤ K) : ∀ (n : Nat) (w : Wr) (a : Int), InI g a → Few (writeF g n w a) →
    (writeF g n w a).out.length + K * wgt iN g (writeF g n w a).cells ≤ w.out.length + K * wgt iN g w.cells + K
  | 0, w, a, _, _ => by unfold writeF; omega
  | n + 1, w, a, ha, hF => by
    have hm : maxN = 1000000000000000 := rfl
    have c := hc a ha
    have hFw := (gone_write g (n + 1) w a).few hF
    have ht := c.text
    unfold writeF at hF ⊢
    simp only at hF ⊢
    split
    · rw [put_cells, put_len]; simp only [List.length_cons, List.length_nil]; omega
    split
    · rw [put_cells, put_len]; simp only [List.length_cons, List.length_nil]; omega
    split
    · rw [put_cells, put_len]; simp only [List.length_cons, List.length_nil]; omega
    split
    · rename_i h3
      have h4 := c.num h3
      have := num_len (n := sgn (at_ g a).num) (by unfold sgn; split <;> omega)
      rw [put_cells, put_len]; simp only [List.length_cons]; omega
    split
    · have := sym_len w (at_ g a).text ht.1 hFw.1
      rw [sym_cells]; omega
    split
    · rename_i h6
      have := List.idxOf_lt_length_iff.2 h6
      have := num_len (n := w.cells.idxOf a) (by have := hFw.2; omega)
      rw [put_cells, put_len]; simp only [List.length_cons]; omega
    rename_i k0 k1 k2 k3 k5 hm2
    rw [if_neg k0, if_neg k1, if_neg k2, if_neg k3, if_neg k5, if_neg hm2] at hF
    have hw := wgt_new (F := iN) ha hm2
    have hw2 : K * wgt iN g (w.cells ++ [a]) + K * iN (at_ g a) = K * wgt iN g w.cells := by rw [← Nat.mul_add, hw]
    have hl := c.len
    have hn1 := num_len (n := (at_ g a).items.length) (by omega)
    have hn2 := num_len (n := (at_ g a).items.length / 2) (by omega)
    have step : ∀ w, ∀ x ∈ (at_ g a).items, Few (writeF g n w x) → (writeF g n w x).out.length + K * wgt iN g (writeF g n w x).cells ≤ w.out.length + K * wgt iN g w.cells + K := fun w x hx => write_len hg hc hK n w x (outs_in hg ha hx)
    split
    · have := num_len (n := (at_ g a).text.length) (by omega)
      rw [put_cells, put_len]; simp only [List.length_cons, List.length_append]
      omega
    rename_i k4
    rw [if_neg k4] at hF
    split
    · rename_i k6
      rw [if_pos k6] at hF
      have := fold_out (Φ := fun w => K * wgt iN g w.cells) (c := K) (gone_write g n) (at_ g a).items _ step hF
      refine Nat.le_trans this ?_
      rw [put_cells, put_len]
      simp only [List.length_cons]
      have : K * iN (at_ g a) ≥ K * (at_ g a).items.length := Nat.mul_le_mul_left K (by unfold iN; omega)
      omega
    rename_i k6
    rw [if_neg k6] at hF
    split
    · rename_i k7
      rw [if_pos k7] at hF
      have := fold_out (Φ := fun w => K * wgt iN g w.cells) (c := K) (gone_write g n) (at_ g a).items _ step hF
      refine Nat.le_trans this ?_
      rw [put_cells, put_len]
      simp only [List.length_cons]
      have : K * iN (at_ g a) ≥ K * (at_ g a).items.length := Nat.mul_le_mul_left K (by unfold iN; omega)
      omega
    rename_i k7
    rw [if_neg k7] at hF
    have k8 : (at_ g a).kind = 8 := by have := c.kind; omega
    have hgone := gone_fold (f := fun w (p : B × Int) => writeF g n (symW w p.1) p.2) (fun w p => (gone_sym w p.1).trans (gone_write g n _ p.2)) ((at_ g a).names.zip (at_ g a).items)
    have hFs := (hgone _).few hF
    have hcl := c.cls k8
    have hn3 := num_len (n := (at_ g a).names.length) (by rw [c.lens k8]; omega)
    have := fold_out (Φ := fun w => K * wgt iN g w.cells) (c := 2 * K) (f := fun w (p : B × Int) => writeF g n (symW w p.1) p.2) (fun w p => (gone_sym w p.1).trans (gone_write g n _ p.2)) ((at_ g a).names.zip (at_ g a).items) _ (fun w p hp hFp => by
      have hz := List.of_mem_zip (a := p.1) (b := p.2) hp
      have h1 := step (symW w p.1) p.2 hz.2 hFp
      have hFw2 := ((gone_sym w p.1).trans (gone_write g n _ p.2)).few hFp
      have h2 := sym_len w p.1 (by have := (c.nam p.1 hz.1).2; omega) hFw2.1
      have := (c.nam p.1 hz.1).2
      rw [sym_cells] at h1
      omega) hF
    refine Nat.le_trans this ?_
    rw [put_cells, put_len, sym_cells, put_cells]
    have hs := sym_len (putW { w with cells := w.cells ++ [a] } [111]) (at_ g a).text ht.1 (by show w.ss.length ≤ _; exact hFw.1)
    rw [put_len] at hs
    simp only [List.length_cons, List.length_nil] at hs ⊢
    have hz2 : ((at_ g a).names.zip (at_ g a).items).length = (at_ g a).items.length := by rw [List.length_zip, c.lens k8]; omega
    rw [hz2]
    have : K * iN (at_ g a) = 2 * K * (at_ g a).items.length := by unfold iN; rw [c.lens k8, ← Nat.two_mul, ← Nat.mul_assoc, Nat.mul_comm K 2]
    omega
end Go.Marshal

/-
  Plain: what was written is read back, cell by cell.
-/
namespace Go.Marshal
open Go.Core

/-! ### Where the cells that were read come from -/
def lk (org : List Int) (i : Int) : Int := org.getD i.toNat 0
theorem lk_app {org on : List Int} {i : Int} (h : 0 ≤ i ∧ i < (org.length : Int)) : lk (org ++ on) i = lk org i := by
  unfold lk
  rw [List.getD_eq_getElem?_getD, List.getD_eq_getElem?_getD, List.getElem?_append_left (by omega)]
/-- A writer and a reader are at the same place. -/
structure Rl (w : Wr) (st : St) (org : List Int) : Prop where
  ss : st.ss = w.ss
  len : org.length = st.g.length
  cells : st.cells.map (lk org) = w.cells
  rng : ∀ i ∈ st.cells, 0 ≤ i ∧ i < (st.g.length : Int)
/-- A cell that was read, and the one it comes from. -/
structure Good (g : List Cell) (org : List Int) (n : Nat) (c : Cell) (x : Int) : Prop where
  cell : at_ g x = reNum (lk org) c
  rng : ∀ y ∈ c.items, 0 ≤ y ∧ y < (n : Int)
  inI : InI g x
def shared (c : Cell) : Prop := c.kind = 4 ∨ 6 ≤ c.kind
/-- What was read since. -/
structure Ex (g : List Cell) (st st' : St) (org org' : List Int) (new : List Cell) (on : List Int) : Prop where
  g_ : st'.g = st.g ++ new
  o_ : org' = org ++ on
  len : on.length = new.length
  good : ∀ (j : Nat) (c : Cell) (x : Int), new[j]? = some c → on[j]? = some x → Good g org' st'.g.length c x ∧ (shared c → ((st.g.length + j : Nat) : Int) ∈ st'.cells)
  sub : ∀ i ∈ st.cells, i ∈ st'.cells
theorem Good.mono {g : List Cell} {org on : List Int} {n m : Nat} {c : Cell} {x : Int} (h : Good g org n c x) (ho : org.length = n) (hm : n ≤ m) : Good g (org ++ on) m c x :=
  ⟨by
    rw [h.cell]
    unfold reNum
    congr 1
    exact List.map_congr_left fun y hy => (lk_app (by rw [ho]; exact h.rng y hy)).symm, fun y hy => by have := h.rng y hy; omega, h.inI⟩
theorem Ex.refl (g : List Cell) (st : St) (org : List Int) (s : B) (ss : List B) : Ex g st { st with s := s, ss := ss } org org [] [] :=
  ⟨by simp, by simp, rfl, fun j c x h => by simp at h, fun _ h => h⟩
theorem Ex.trans {g : List Cell} {st st1 st2 : St} {org org1 org2 : List Int} {n1 n2 : List Cell} {o1 o2 : List Int} (h : Ex g st st1 org org1 n1 o1) (k : Ex g st1 st2 org1 org2 n2 o2) (hl : org.length = st.g.length) : Ex g st st2 org org2 (n1 ++ n2) (o1 ++ o2) := by
  have hl1 : org1.length = st1.g.length := by rw [h.o_, h.g_, List.length_append, List.length_append, hl, h.len]
  refine ⟨by rw [k.g_, h.g_, List.append_assoc], by rw [k.o_, h.o_, List.append_assoc], by rw [List.length_append, List.length_append, h.len, k.len], fun j c x hc hx => ?_, fun i hi => k.sub i (h.sub i hi)⟩
  rcases Nat.lt_or_ge j n1.length with hj | hj
  · rw [List.getElem?_append_left hj] at hc
    rw [List.getElem?_append_left (by rw [h.len]; exact hj)] at hx
    obtain ⟨g1, g2⟩ := h.good j c x hc hx
    rw [k.o_, k.g_]
    refine ⟨g1.mono hl1 (by rw [List.length_append]; omega), fun hs => k.sub _ (g2 hs)⟩
  · rw [List.getElem?_append_right hj] at hc
    rw [List.getElem?_append_right (by rw [h.len]; exact hj), h.len] at hx
    obtain ⟨g1, g2⟩ := k.good _ c x hc hx
    refine ⟨g1, fun hs => ?_⟩
    have := g2 hs
    rw [h.g_, List.length_append] at this
    rw [show st.g.length + j = st.g.length + n1.length + (j - n1.length) by omega]
    exact this
/-! ### Symbols -/
/-! ### A cell -/
end Go.Marshal

/-
  Plain: what was written is read back, cells with items.
-/
namespace Go.Marshal
open Go.Core

/-- The cells that a writer has are places of the graph, each once, and no leaves but strings. -/
structure Kn (g : List Cell) (w : Wr) : Prop where
  nodup : w.cells.Nodup
  inI : ∀ x ∈ w.cells, InI g x
  sh : ∀ x ∈ w.cells, shared (at_ g x)
theorem Kn.put {g : List Cell} {w : Wr} (h : Kn g w) (b : B) : Kn g (putW w b) := ⟨h.nodup, h.inI, h.sh⟩
theorem Kn.sym {g : List Cell} {w : Wr} (h : Kn g w) (t : B) : Kn g (symW w t) :=
  ⟨by rw [sym_cells]; exact h.nodup, by rw [sym_cells]; exact h.inI, by rw [sym_cells]; exact h.sh⟩
theorem Kn.fold {α : Type} {g : List Cell} {f : Wr → α → Wr} : ∀ (l : List α) (w : Wr), (∀ w, ∀ x ∈ l, Kn g w → Kn g (f w x)) → Kn g w → Kn g (l.foldl f w)
  | [], _, _, h => h
  | x :: l, w, hf, h => Kn.fold l (f w x) (fun w y hy => hf w y (by simp [hy])) (hf w x (by simp) h)
theorem Kn.write {g : List Cell} {K : Nat} (hg : InG g) (hc : ∀ i, InI g i → CellW K (at_ g i)) : ∀ (n : Nat) (w : Wr) (a : Int), InI g a → Kn g w → Kn g (writeF g n w a)
  | 0, _, _, _, h => h
  | n + 1, w, a, ha, h => by
    have c := hc a ha
    unfold writeF
    simp only
    split
    · exact h.put _
    split
    · exact h.put _
    split
    · exact h.put _
    split
    · exact h.put _
    split
    · exact h.sym _
    split
    · exact h.put _
    rename_i k0 k1 k2 k3 k5 hm
    have hk : Kn g { w with cells := w.cells ++ [a] } :=
      ⟨List.nodup_append.2 ⟨h.nodup, by simp, fun x hx y hy => by rw [List.mem_singleton.1 hy]; rintro rfl; exact hm hx⟩, fun x hx => (List.mem_append.1 hx).elim (h.inI x) fun hx => by rw [List.mem_singleton.1 hx]; exact ha,
        fun x hx => (List.mem_append.1 hx).elim (h.sh x) fun hx => by rw [List.mem_singleton.1 hx]; unfold shared; have := c.kind; omega⟩
    have step : ∀ w, ∀ x ∈ (at_ g a).items, Kn g w → Kn g (writeF g n w x) := fun w x hx hw => Kn.write hg hc n w x (outs_in hg ha hx) hw
    split
    · exact hk.put _
    split
    · exact Kn.fold _ _ step (hk.put _)
    split
    · exact Kn.fold _ _ step (hk.put _)
    · exact Kn.fold _ _ (fun w p hp hw => step _ _ (List.of_mem_zip (a := p.1) (b := p.2) hp).2 (hw.sym _)) ((((hk.put _).sym _).put _))
/-- A writer of names and items. -/
def pairW (g : List Cell) (n : Nat) (w : Wr) (p : B × Int) : Wr := writeF g n (symW w p.1) p.2
theorem gone_pair (g : List Cell) (n : Nat) (w : Wr) (p : B × Int) : Gone w (pairW g n w p) := (gone_sym w p.1).trans (gone_write g n _ p.2)
theorem Rl.sym {w : Wr} {st : St} {org : List Int} (h : Rl w st org) (t : B) (s : B) : Rl (symW w t) { st with s := s, ss := (symW w t).ss } org :=
  ⟨rfl, h.len, by rw [sym_cells]; exact h.cells, h.rng⟩
theorem Ex.pre {g : List Cell} {st st' : St} {org org' : List Int} {new : List Cell} {on : List Int} {s : B} {ss : List B} (h : Ex g { st with s := s, ss := ss } st' org org' new on) : Ex g st st' org org' new on :=
  ⟨h.g_, h.o_, h.len, h.good, h.sub⟩
end Go.Marshal

/-
  Plain: what was written is read back: every kind of cell; the whole bytes.
-/
namespace Go.Marshal
open Go.Core

theorem cells_few {g : List Cell} (h500 : g.length ≤ 500) {w : Wr} (hN : w.cells.Nodup) (hI : ∀ x ∈ w.cells, InI g x) : w.cells.length ≤ 500 :=
  Nat.le_trans (way_le (n := g.length) hN hI) h500
theorem Rl.put {w : Wr} {st : St} {org : List Int} (h : Rl w st org) (b : B) (s : B) : Rl (putW w b) { st with s := s } org := ⟨h.ss, h.len, h.cells, h.rng⟩
end Go.Marshal

/-
  Plain: what the writer has met is what is reached; how many symbols; what a valid graph gives.
-/
namespace Go.Marshal
open Go.Core

theorem fold_le {α : Type} {f : Wr → α → Wr} {Q : Wr → Nat} {c : Nat} : ∀ (l : List α) (w : Wr), (∀ w, ∀ x ∈ l, Q (f w x) ≤ Q w + c) → Q (l.foldl f w) ≤ Q w + c * l.length
  | [], w, _ => by simp
  | x :: l, w, h => by
    rw [List.foldl_cons]
    have h1 := h w x (by simp)
    have h2 := fold_le (Q := Q) l (f w x) fun w y hy => h w y (by simp [hy])
    rw [List.length_cons, Nat.mul_add]; omega
def iS (c : Cell) : Nat := c.items.length + c.names.length + 1
theorem sym_ss (w : Wr) (t : B) : (symW w t).ss.length ≤ w.ss.length + 1 := by
  unfold symW
  split
  · show w.ss.length ≤ _; omega
  · show (w.ss ++ [t]).length ≤ _; simp
theorem write_ss {g : List Cell} {K : Nat} (hg : InG g) (hc : ∀ i, InI g i → CellW K (at_ g i)) : ∀ (n : Nat) (w : Wr) (a : Int), InI g a → (writeF g n w a).ss.length + wgt iS g (writeF g n w a).cells ≤ w.ss.length + wgt iS g w.cells + 1
  | 0, w, a, _ => by unfold writeF; omega
  | n + 1, w, a, ha => by
    have c := hc a ha
    unfold writeF
    simp only
    split
    · show w.ss.length + wgt iS g w.cells ≤ _; omega
    split
    · show w.ss.length + wgt iS g w.cells ≤ _; omega
    split
    · show w.ss.length + wgt iS g w.cells ≤ _; omega
    split
    · show w.ss.length + wgt iS g w.cells ≤ _; omega
    split
    · rw [sym_cells]
      have := sym_ss w (at_ g a).text
      omega
    split
    · show w.ss.length + wgt iS g w.cells ≤ _; omega
    rename_i k0 k1 k2 k3 k5 hm2
    have hw : wgt iS g (w.cells ++ [a]) + ((at_ g a).items.length + (at_ g a).names.length + 1) = wgt iS g w.cells := wgt_new (F := iS) ha hm2
    have step : ∀ w, ∀ x ∈ (at_ g a).items, (writeF g n w x).ss.length + wgt iS g (writeF g n w x).cells ≤ w.ss.length + wgt iS g w.cells + 1 := fun w x hx => write_ss hg hc n w x (outs_in hg ha hx)
    split
    · show w.ss.length + wgt iS g (w.cells ++ [a]) ≤ _; omega
    split
    · refine Nat.le_trans (fold_le (Q := fun w => w.ss.length + wgt iS g w.cells) (c := 1) _ _ step) ?_
      show w.ss.length + wgt iS g (w.cells ++ [a]) + 1 * _ ≤ _; omega
    split
    · refine Nat.le_trans (fold_le (Q := fun w => w.ss.length + wgt iS g w.cells) (c := 1) _ _ step) ?_
      show w.ss.length + wgt iS g (w.cells ++ [a]) + 1 * _ ≤ _; omega
    · have k8 : (at_ g a).kind = 8 := by have := c.kind; omega
      have hl := c.lens k8
      refine Nat.le_trans (fold_le (Q := fun w => w.ss.length + wgt iS g w.cells) (c := 2) _ _ fun w p hp => ?_) ?_
      · have := step (symW w p.1) p.2 (List.of_mem_zip (a := p.1) (b := p.2) hp).2
        rw [sym_cells] at this
        have := sym_ss w p.1
        show (writeF g n (symW w p.1) p.2).ss.length + _ ≤ _
        omega
      · have := sym_ss (putW { w with cells := w.cells ++ [a] } [111]) (at_ g a).text
        rw [put_cells, sym_cells, put_cells, List.length_zip, hl, Nat.min_self]
        show (symW _ _).ss.length + wgt iS g (w.cells ++ [a]) + 2 * _ ≤ _
        have : (putW { w with cells := w.cells ++ [a] } [111]).ss.length = w.ss.length := rfl
        omega

/-! ### What is met -/
structure WDone (g : List Cell) (R : Int → Prop) (cs ds : List Int) : Prop where
  sub : ∀ x ∈ cs, x ∈ ds
  new : ∀ x ∈ ds, x ∈ cs ∨ R x ∧ ∀ k ∈ outs g x, shared (at_ g k) → k ∈ ds
theorem WDone.refl (g : List Cell) (R : Int → Prop) (cs : List Int) : WDone g R cs cs := ⟨fun _ h => h, fun _ h => .inl h⟩
theorem WDone.trans {g : List Cell} {R : Int → Prop} {a b c : List Int} (h : WDone g R a b) (k : WDone g R b c) : WDone g R a c :=
  ⟨fun x hx => k.sub x (h.sub x hx), fun x hx => by
    rcases k.new x hx with h1 | h1
    · rcases h.new x h1 with h2 | h2
      · exact .inl h2
      · exact .inr ⟨h2.1, fun y hy hs => k.sub y (h2.2 y hy hs)⟩
    · exact .inr h1⟩
theorem WDone.wk {g : List Cell} {R S : Int → Prop} {a b : List Int} (h : WDone g R a b) (k : ∀ x, R x → S x) : WDone g S a b := ⟨h.sub, fun x hx => (h.new x hx).imp id fun h => ⟨k x h.1, h.2⟩⟩
theorem WDone.fold {α : Type} {g : List Cell} {R : Int → Prop} {f : Wr → α → Wr} {φ : α → Int} {m : Nat} : ∀ (l : List α) (w : Wr), (∀ w, ∀ x ∈ l, freeN g w.cells < m → WDone g R w.cells (f w x).cells ∧ (shared (at_ g (φ x)) → φ x ∈ (f w x).cells)) → freeN g w.cells < m → WDone g R w.cells (l.foldl f w).cells ∧ ∀ x ∈ l, shared (at_ g (φ x)) → φ x ∈ (l.foldl f w).cells
  | [], w, _, _ => ⟨WDone.refl _ _ _, fun _ h => by cases h⟩
  | x :: l, w, h, hm => by
    rw [List.foldl_cons]
    obtain ⟨d1, h1⟩ := h w x (by simp) hm
    obtain ⟨d2, h2⟩ := WDone.fold l (f w x) (fun w y hy => h w y (by simp [hy])) (Nat.lt_of_le_of_lt (free_mono d1.sub) hm)
    refine ⟨d1.trans d2, fun y hy hs => ?_⟩
    rcases List.mem_cons.1 hy with rfl | hy
    · exact d2.sub _ (h1 hs)
    · exact h2 y hy hs
/-! ### A valid graph -/
theorem cellW_of {g : List Cell} {K : Nat} (hv : ValidP g) (hs : ∀ c ∈ g, c.items.length ≤ 2000 ∧ c.text.length + 30 ≤ K) (i : Int) (hi : InI g i) : CellW K (at_ g i) := by
  have hm := at_mem hi
  have hd := hv.2.1 _ hm
  have hp : plainS (at_ g i) = true := by
    have := cell_eq g.length (at_ g i)
    rw [hd, Bool.and_eq_true] at this
    exact this.1
  obtain ⟨hs1, hs2⟩ := hs _ hm
  have htx := cellD_text hd
  have hmx : maxI = (maxN : Int) := rfl
  generalize at_ g i = c at *
  unfold plainS at hp
  simp only [Bool.and_eq_true] at hp
  obtain ⟨⟨⟨⟨hk, ht⟩, hn⟩, hb⟩, hl⟩ := hp
  simp only [decide_eq_true_eq, Bool.or_eq_true] at hk hn hb
  rw [hmx] at hb
  have hic : ∀ s, Go.Scan.icB s = true → s.length ≤ 40 := fun s h => by
    unfold Go.Scan.icB Go.Scan.iwB at h
    simp only [Bool.and_eq_true, decide_eq_true_eq] at h
    exact h.1.1.2
  have hii : ∀ s, Go.Scan.iiB s = true → s.length ≤ 40 := fun s h => by
    unfold Go.Scan.iiB at h
    simp only [Bool.and_eq_true, decide_eq_true_eq] at h
    exact h.2
  refine ⟨hk, fun _ => hb, fun h => hn.resolve_left h, ⟨htx, hs2⟩, fun h => ?_, fun h => ?_, fun h4 h5 h8 => ?_, fun h => ?_, fun h => ?_, fun h => ?_, fun h => ?_, ?_, ?_, hs1⟩
  · rw [if_neg (by omega), if_pos h] at ht
    simpa using ht
  · rw [if_neg (by omega), if_neg (by omega), if_pos h] at ht
    exact ⟨ht, hic _ ht⟩
  · rw [if_neg h4, if_neg h5, if_neg h8] at ht
    simpa using ht
  · rw [if_pos h] at hl
    simpa using hl
  · by_cases h5 : c.kind ≤ 5
    · rw [if_pos h5] at hl
      simp only [Bool.and_eq_true, decide_eq_true_eq] at hl
      exact hl.2
    · rw [if_neg h5, if_pos h] at hl
      simp only [Bool.and_eq_true, decide_eq_true_eq] at hl
      exact hl.1
  · rw [if_neg (by omega), if_pos (by omega)] at hl
    simp only [Bool.and_eq_true, Bool.or_eq_true, decide_eq_true_eq] at hl
    exact hl.2.resolve_left (by omega)
  · rw [if_neg (by omega), if_neg (by omega)] at hl
    simp only [Bool.and_eq_true, decide_eq_true_eq] at hl
    exact hl.1.1
  · by_cases h8 : c.kind = 8
    · rw [if_neg (by omega), if_neg (by omega)] at hl
      simp only [Bool.and_eq_true, decide_eq_true_eq] at hl
      exact hl.1.2
    · by_cases h5 : c.kind ≤ 5
      · rw [if_pos h5] at hl
        simp only [Bool.and_eq_true, decide_eq_true_eq] at hl
        rw [hl.2]; exact List.nodup_nil
      · rw [if_neg h5, if_pos h8] at hl
        simp only [Bool.and_eq_true, decide_eq_true_eq] at hl
        rw [hl.1]; exact List.nodup_nil
  · by_cases h8 : c.kind = 8
    · rw [if_neg (by omega), if_neg (by omega)] at hl
      simp only [Bool.and_eq_true] at hl
      exact fun t ht => ⟨List.all_eq_true.1 hl.2 t ht, hii t (List.all_eq_true.1 hl.2 t ht)⟩
    · by_cases h5 : c.kind ≤ 5
      · rw [if_pos h5] at hl
        simp only [Bool.and_eq_true, decide_eq_true_eq] at hl
        rw [hl.2]; exact fun t ht => by cases ht
      · rw [if_neg h5, if_pos h8] at hl
        simp only [Bool.and_eq_true, decide_eq_true_eq] at hl
        rw [hl.1]; exact fun t ht => by cases ht
end Go.Marshal

/-
  Contracts: the writer's texts and symbols (marshal).
-/
namespace Go.Marshal
/-- What a map tells of a list: each one's place. -/
def idxR {α : Type} (l : List α) : List (α × Value) := l.zipIdx.map fun p => (p.1, .int .i64 (p.2 : Int))
theorem beq_inst {α : Type} [DecidableEq α] [B : BEq α] [LawfulBEq α] : B = instBEqOfDecidableEq := by
  have h : ∀ a b, @BEq.beq α B a b = decide (a = b) := fun a b => by rw [Bool.eq_iff_iff]; simp
  cases B with
  | mk f => exact congrArg BEq.mk (funext fun a => funext fun b => h a b)
theorem idxR_look0 {α : Type} [DecidableEq α] (l : List α) (x : α) : (idxR l).lookup x = if x ∈ l then some (.int .i64 (l.idxOf x : Int)) else none := by
  unfold idxR
  have key : ∀ (l : List α) (k : Nat), ((l.zipIdx k).map fun p => (p.1, Value.int .i64 (p.2 : Int))).lookup x = if x ∈ l then some (.int .i64 ((l.idxOf x + k : Nat) : Int)) else none := by
    intro l
    induction l with
    | nil => intro k; rfl
    | cons y l ih =>
      intro k
      rw [List.zipIdx_cons, List.map_cons, List.lookup_cons, List.idxOf_cons]
      by_cases h : x = y
      · subst h
        simp
      · have h1 : (x == y) = false := by simpa using h
        have h2 : (y == x) = false := by simpa using fun e => h e.symm
        rw [h1, h2, ih (k + 1)]
        simp only [List.mem_cons, h, false_or, cond_false]
        split
        · congr 2; omega
        · rfl
  have := key l 0
  simpa using this
theorem idxR_look {α : Type} [D : DecidableEq α] [B : BEq α] [LawfulBEq α] (l : List α) (x : α) : @List.lookup α Value (@instBEqOfDecidableEq α D) x (idxR l) = if x ∈ l then some (.int .i64 (@List.idxOf α B x l : Int)) else none := by
  have e := beq_inst (B := B)
  subst e
  rw [idxR_look0]
theorem upd_new {α : Type} [DecidableEq α] (x : α) (v : Value) : ∀ R : List (α × Value), (∀ p ∈ R, p.1 ≠ x) → Go.AX.upd x v R = R ++ [(x, v)]
  | [], _ => rfl
  | (y, u) :: R, h => by
    unfold Go.AX.upd
    rw [if_neg (fun e => h (y, u) (by simp) e.symm), upd_new x v R fun p hp => h p (by simp [hp])]
    rfl
theorem idxR_put {α : Type} [DecidableEq α] {l : List α} {x : α} (h : x ∉ l) : Go.AX.upd x (.int .i64 (l.length : Int)) (idxR l) = idxR (l ++ [x]) := by
  rw [upd_new]
  · unfold idxR
    rw [List.zipIdx_append, List.map_append]
    simp
  · intro p hp e
    unfold idxR at hp
    obtain ⟨q, hq, rfl⟩ := List.mem_map.1 hp
    have := List.mem_zipIdx hq
    exact h (by rw [← e]; simp only [Nat.zero_add, Nat.sub_zero] at this; rw [this.2.2]; exact List.getElem_mem _)
theorem idxR_len {α : Type} (l : List α) : (idxR l).length = l.length := by unfold idxR; simp
end Go.Marshal
namespace Go.Proofs.YtgogonnnojcioaaGreatDoor
open Go.AX Go.RowKit Go.Core Go.Marshal
set_option maxRecDepth 20000

theorem strT : KeyT Tryz.prog 9 (fun k : List UInt8 => .string (bs k)) := strKeyT (by kernel_rfl)
/-- The writer's memory tells what is written. -/
structure WOk (w : Wr) (x : BSt × MapP) : Prop where
  b : x.1.ok w.out.length
  c : KeysAre (fun k : Int => .int .i64 k) x.2.ce.toList (idxR w.cells)
  s : KeysAre (fun k : List UInt8 => .string (bs k)) x.2.se.toList (idxR w.ss)
variable (gv : Value) (F : World → Prop) (mb sb : Nat)
/-- What a method of the writer leaves. -/
def wOut (w : Wr) : Out → List Ent → Prop := RetG (ι := BSt × MapP) (fun x => WOk w x) (fun _ => .tuple #[]) fun x => wM gv F true w.out x.1 mb sb x.2
theorem text_m (w : Wr) (t : List UInt8) (i : BSt) (q : MapP) (ho : WOk w (i, q)) (hl : w.out.length ≤ 200000000000) (ht : t.length ≤ 100000000000) :
    SpecH Tryz.prog 59 [.c (.lp 0 0), .c (.v (.string (bs t)))] (wM gv F true w.out i mb sb q) (wOut gv F mb sb (putW w (num t.length ++ t))) := by
  refine ownC hm Tryz.func59 (by kernel_rfl) rfl rfl (fun _ _ => wM_ok _ _ _ _ _ _ _ _) (fun _ _ => Nat.le_refl _) ?_
  (first | refine wXD ?_ | exact wZD)
  refine DrawN.planQ [0, 3, 6] [1, 2, 4, 5, 7] [(8, 0)] (by decide +kernel) ?_
  (first | refine wXD ?_ | exact wZD)
  have hnl := num_len (n := t.length) (by omega)
  rw [bs_size]
  refine callQ (wide_c t.length (by omega) _) ?_
  (first | refine wXD ?_ | exact wZD)
  refine Nd.mk (by rw [bs_size, bs_size]; omega) ?_
  rw [bs_app]
  (first | refine wXD ?_ | exact wZD)
  -- w.out: what is there, num t.length ++ t: what is written, i: the Builder's place, ho.b: its word, q: the maps
  refine callG (WriteString_m gv F mb sb (q) true (w.out) (num t.length ++ t) i ho.b (by first | omega | (simp; omega))) [0, 1, 2, 3, 4] rfl ⟨rfl, rfl, rfl, rfl, rfl, trivial⟩ rfl fun i2 hi2 => ?_
  (first | refine wXD ?_ | exact wZD)
  exact ⟨(i2, q), ⟨hi2, ho.c, ho.s⟩, rfl, wkE_refl _, wkE_refl _, wkE_refl _, wkE_refl _, wkE_refl _, trivial⟩
theorem symbol_m (w : Wr) (t : List UInt8) (i : BSt) (q : MapP) (ho : WOk w (i, q)) (hl : w.out.length ≤ 100000000000) (ht : t.length ≤ 100000000000) (hs : w.ss.length ≤ 100000000000) :
    SpecH Tryz.prog 58 [.c (.lp 0 0), .c (.v (.string (bs t)))] (wM gv F true w.out i mb sb q) (wOut gv F mb sb (symW w t)) := by
  refine ownC hm Tryz.func58 (by kernel_rfl) rfl rfl (fun _ _ => wM_ok _ _ _ _ _ _ _ _) (fun _ _ => Nat.le_refl _) ?_
  (first | refine wXD ?_ | exact wZD)
  refine ReadW.askKey (et := 3) (p := t) (idxR w.ss) rfl (by kernel_rfl) strT rfl rfl rfl rfl (fun w hw => hw.2.2.1) ho.s ?_
  rw [idxR_look]
  by_cases h : t ∈ w.ss
  · have hi := List.idxOf_lt_length_iff.2 h
    rw [if_pos h, show symW w t = putW w (59 :: num (w.ss.idxOf t)) by unfold symW; rw [if_pos h]]
    generalize w.ss.idxOf t = k at hi ⊢
    (first | refine wXD ?_ | exact wZD)
    refine DrawN.planQ [0, 3] [1, 2, 4, 5] [(6, 0)] (by decide +kernel) ?_
    (first | refine wXD ?_ | exact wZD)
    have hnl := num_len (n := k) (by omega)
    refine callQ (wide_c k (by omega) _) ?_
    (first | refine wXD ?_ | exact wZD)
    refine Nd.mk (by rw [bs_size]; show 1 + _ < _; omega) ?_
    rw [show (⟨#[59]⟩ : ByteArray) = bs [59] from rfl, bs_app]
    (first | refine wXD ?_ | exact wZD)
    -- w.out: what is there, [59] ++ num k: what is written, i: the Builder's place, ho.b: its word, q: the maps
    refine callG (WriteString_m gv F mb sb (q) true (w.out) ([59] ++ num k) i ho.b (by first | omega | (simp; omega))) [0, 1, 2, 3, 4] rfl ⟨rfl, rfl, rfl, rfl, rfl, trivial⟩ rfl fun i2 hi2 => ?_
    (first | refine wXD ?_ | exact wZD)
    exact ⟨(i2, q), ⟨hi2, ho.c, ho.s⟩, rfl, wkE_refl _, wkE_refl _, wkE_refl _, wkE_refl _, wkE_refl _, trivial⟩
  · rw [if_neg h, show symW w t = ⟨w.out ++ (58 :: (num t.length ++ t)), w.cells, w.ss ++ [t]⟩ by unfold symW; rw [if_neg h], show (⟨w.out ++ (58 :: (num t.length ++ t)), w.cells, w.ss ++ [t]⟩ : Wr) = putW ⟨w.out ++ [58], w.cells, w.ss ++ [t]⟩ (num t.length ++ t) by unfold putW; simp]
    (first | refine wXD ?_ | exact wZD)
    refine DrawN.planQ [0, 4, 5] [1, 2, 3, 6, 7, 8, 9] [(10, 0)] (by decide +kernel) ?_
    (first | refine wXD ?_ | exact wZD)
    refine ReadW.mapLen (kt := 9) (et := 3) w.ss.length rfl rfl rfl (by kernel_rfl) rfl (fun w hw => hw.2.2.1) (by rw [← Array.length_toList, ho.s.len, idxR_len]) ?_
    (first | refine wXD ?_ | exact wZD)
    refine EffW.setMap (et := 3) (p := t) 3 (idxR w.ss) rfl (by kernel_rfl) strT rfl rfl rfl rfl ho.s fun es2 c2 hk2 => ?_
    rw [idxR_put h] at hk2
    (first | refine wXD ?_ | exact wZD)
    -- w.out: what is there, [58]: what is written, i: the Builder's place, ho.b: its word, ⟨q.ce, q.cc, es2, c2⟩: the maps
    refine callG (WriteString_m gv F mb sb (⟨q.ce, q.cc, es2, c2⟩) true (w.out) ([58]) i ho.b (by first | omega | (simp; omega))) [0, 1, 2, 3, 4] rfl ⟨rfl, rfl, rfl, rfl, rfl, trivial⟩ rfl fun i2 hi2 => ?_
    (first | refine wXD ?_ | exact wZD)
    refine callG (text_m gv F mb sb ⟨w.out ++ [58], w.cells, w.ss ++ [t]⟩ t i2 ⟨q.ce, q.cc, es2, c2⟩ ⟨hi2, ho.c, hk2⟩ (by show (w.out ++ [58]).length ≤ _; simp; omega) ht) [0, 1, 2, 3, 4] rfl ⟨rfl, rfl, rfl, rfl, rfl, trivial⟩ rfl fun x hx => ?_
    (first | refine wXD ?_ | exact wZD)
    exact ⟨x, hx, rfl, wkE_refl _, wkE_refl _, wkE_refl _, wkE_refl _, wkE_refl _, trivial⟩
end Go.Proofs.YtgogonnnojcioaaGreatDoor

/-
  Plain: a graph that was written is read back as its image.
-/
namespace Go.Marshal
open Go.Core

/-- What is asked of a graph that is written. -/
structure Dmp (g : List Cell) (K : Nat) (k : Int) : Prop where
  valid : ValidP g
  small : ∀ c ∈ g, c.items.length ≤ 2000 ∧ c.names.length ≤ 2000 ∧ c.text.length + 30 ≤ K
  at_ : InI g k
theorem Dmp.cellW {g : List Cell} {K : Nat} {k : Int} (h : Dmp g K k) : ∀ i, InI g i → CellW K (Core.at_ g i) := fun i hi => cellW_of h.valid (fun c hc => ⟨(h.small c hc).1, (h.small c hc).2.2⟩) i hi
/-- The writer at the end. -/
def doneW (g : List Cell) (k : Int) : Wr := writeF g (g.length + 1) ⟨headB, [], []⟩ k
theorem Dmp.kn {g : List Cell} {K : Nat} {k : Int} (h : Dmp g K k) : Kn g (doneW g k) :=
  Kn.write (valid_in h.valid) h.cellW _ _ _ h.at_ ⟨List.nodup_nil, (fun _ h => by cases h), fun _ h => by cases h⟩
theorem Dmp.wle {g : List Cell} {K : Nat} {k : Int} (h : Dmp g K k) : wgt iS g [] ≤ g.length * 4001 := wgt_le (fun i hi => by
  have := h.small _ (at_mem hi)
  unfold iS
  omega) []
theorem Dmp.few {g : List Cell} {K : Nat} {k : Int} (h : Dmp g K k) : Few (doneW g k) := by
  have h500 := h.valid.1
  have h1 := write_ss (valid_in h.valid) h.cellW (g.length + 1) ⟨headB, [], []⟩ k h.at_
  have h2 := h.wle
  have h3 := cells_few h500 h.kn.nodup h.kn.inI
  have hm : maxN = 1000000000000000 := rfl
  refine ⟨?_, by omega⟩
  unfold doneW
  have h4 : (⟨headB, [], []⟩ : Wr).ss.length = 0 := rfl
  have h5 : (⟨headB, [], []⟩ : Wr).cells = [] := rfl
  rw [h4, h5] at h1
  omega
end Go.Marshal

/-
  Plain: an image writes the same text and the same bytes, is equal, has circles where the graph has.
-/
namespace Go.Marshal
open Go.Core

/-! ### The bytes of an image -/
/-- Two writers at the same place, one of a graph and one of its image. -/
structure Tw (g h : List Cell) (org : List Int) (v w : Wr) : Prop where
  out : v.out = w.out
  ss : v.ss = w.ss
  cells : v.cells = w.cells.map (lk org)
  rng : ∀ x ∈ w.cells, InI h x ∧ shared (at_ h x)
theorem Tw.put {g h : List Cell} {org : List Int} {v w : Wr} (t : Tw g h org v w) (b : B) : Tw g h org (putW v b) (putW w b) :=
  ⟨by show v.out ++ b = w.out ++ b; rw [t.out], t.ss, t.cells, t.rng⟩
theorem Tw.sym {g h : List Cell} {org : List Int} {v w : Wr} (t : Tw g h org v w) (s : B) : Tw g h org (symW v s) (symW w s) := by
  unfold symW
  rw [t.ss]
  split
  · exact t.put _
  · exact ⟨by rw [t.out], by simp only, t.cells, t.rng⟩
theorem Tw.fold {α β : Type} {g h : List Cell} {org : List Int} {f : Wr → α → Wr} {f2 : Wr → β → Wr} {φ : β → α} {m n : Nat} : ∀ (l : List β) (v w : Wr), (∀ v w, ∀ x ∈ l, freeN g v.cells < m → freeN h w.cells < n → Tw g h org v w → Tw g h org (f v (φ x)) (f2 w x)) → (∀ v x, Gone v (f v x)) → (∀ v x, Gone v (f2 v x)) → freeN g v.cells < m → freeN h w.cells < n → Tw g h org v w → Tw g h org ((l.map φ).foldl f v) (l.foldl f2 w)
  | [], _, _, _, _, _, _, _, t => t
  | x :: l, v, w, hf, g1, g2, hm, hn, t => by
    rw [List.map_cons, List.foldl_cons, List.foldl_cons]
    exact Tw.fold l _ _ (fun v w y hy => hf v w y (by simp [hy])) g1 g2 (Nat.lt_of_le_of_lt (free_mono (g1 v (φ x)).sub) hm) (Nat.lt_of_le_of_lt (free_mono (g2 w x).sub) hn) (hf v w x (by simp) hm hn t)
/-- What is written of a cell. -/
def writeC (f : Wr → Int → Wr) (c : Cell) (w : Wr) (a : Int) : Wr :=
    if c.kind = 0 then putW w [48]
    else if c.kind = 1 then putW w [84]
    else if c.kind = 2 then putW w [70]
    else if c.kind = 3 then putW w (105 :: num (sgn c.num))
    else if c.kind = 5 then symW w c.text
    else if a ∈ w.cells then putW w (64 :: num (w.cells.idxOf a))
    else if c.kind = 4 then putW { w with cells := w.cells ++ [a] } (34 :: (num c.text.length ++ c.text))
      else if c.kind = 6 then c.items.foldl f (putW { w with cells := w.cells ++ [a] } (91 :: num c.items.length))
      else if c.kind = 7 then c.items.foldl f (putW { w with cells := w.cells ++ [a] } (123 :: num (c.items.length / 2)))
      else (c.names.zip c.items).foldl (fun w p => f (symW w p.1) p.2) (putW (symW (putW { w with cells := w.cells ++ [a] } [111]) c.text) (num c.names.length))
theorem writeF_eq (g : List Cell) (n : Nat) (w : Wr) (a : Int) : writeF g (n + 1) w a = writeC (writeF g n) (at_ g a) w a := rfl
end Go.Marshal

/-
  Contract: the writer writes a cell (marshal).
-/
namespace Go.Marshal
open Go.Core
/-- What a writer has is bounded. -/
structure Lim (w : Wr) : Prop where
  o : w.out.length ≤ 90000000000
  s : w.ss.length ≤ 90000000000
  c : w.cells.length ≤ 90000000000
theorem Gone.lim {w w' : Wr} (h : Gone w w') (k : Lim w') : Lim w := by
  obtain ⟨b, cs, ts, rfl⟩ := h
  have h1 := k.o
  have h2 := k.s
  have h3 := k.c
  simp only [List.length_append] at h1 h2 h3
  exact ⟨by omega, by omega, by omega⟩
theorem fold_lim {α : Type} {f : Wr → α → Wr} (hf : ∀ w x, Gone w (f w x)) {l : List α} {w : Wr} (h : Lim (l.foldl f w)) (k : Nat) : Lim ((l.take k).foldl f w) := by
  have e : l.foldl f w = (l.drop k).foldl f ((l.take k).foldl f w) := by rw [← List.foldl_append, List.take_append_drop]
  rw [e] at h
  exact (gone_fold hf _ _).lim h
theorem writeC_met {f : Wr → Int → Wr} {c : Cell} {w : Wr} {a : Int} (hk : c.kind = 4 ∨ 6 ≤ c.kind) (hm : a ∈ w.cells) : writeC f c w a = putW w (64 :: num (w.cells.idxOf a)) := by
  unfold writeC
  rw [if_neg (by omega), if_neg (by omega), if_neg (by omega), if_neg (by omega), if_neg (by omega), if_pos hm]
theorem writeC_new {f : Wr → Int → Wr} {c : Cell} {w : Wr} {a : Int} (hk : c.kind = 4 ∨ 6 ≤ c.kind) (hm : a ∉ w.cells) : writeC f c w a = if c.kind = 4 then putW { w with cells := w.cells ++ [a] } (34 :: (num c.text.length ++ c.text))
      else if c.kind = 6 then c.items.foldl f (putW { w with cells := w.cells ++ [a] } (91 :: num c.items.length))
      else if c.kind = 7 then c.items.foldl f (putW { w with cells := w.cells ++ [a] } (123 :: num (c.items.length / 2)))
      else (c.names.zip c.items).foldl (fun w p => f (symW w p.1) p.2) (putW (symW (putW { w with cells := w.cells ++ [a] } [111]) c.text) (num c.names.length)) := by
  unfold writeC
  rw [if_neg (by omega), if_neg (by omega), if_neg (by omega), if_neg (by omega), if_neg (by omega), if_neg hm]
theorem put_out (w : Wr) (b : B) : (putW w b).out = w.out ++ b := rfl
theorem fold_next {α β : Type} {f : β → α → β} {l : List α} {k : Nat} {x : α} {b : β} (h : l[k]? = some x) : (l.take (k + 1)).foldl f b = f ((l.take k).foldl f b) x := by
  rw [List.take_add_one, h, List.foldl_append]
  rfl
end Go.Marshal
namespace Go.Proofs.YtgogonnnojcioaaGreatDoor
open Go.AX Go.RowKit Go.Core Go.Marshal
set_option maxRecDepth 20000

set_option maxHeartbeats 4000000 in
theorem cell_m {a : Option Addr} (ca : Nat) {l : List CellP} (ha : a = none → l = []) (hok : ∀ p ∈ l, CellOk p) (hg : InG (l.map (·.c))) {K : Nat} (hc : ∀ i, InI (l.map (·.c)) i → CellW K (at_ (l.map (·.c)) i)) (hl2 : l.length ≤ 2000) (mb sb : Nat) :
    ∀ (n : Nat) (w : Wr) (i : BSt) (q : MapP) (u : Nat), u < l.length → freeN (l.map (·.c)) w.cells < n → WOk w (i, q) → Lim (writeF (l.map (·.c)) n w (u : Int)) →
    SpecH Tryz.prog 35 [.c (.lp 0 0), .c (.v (.int .i64 (u : Int)))] (wM (.slice a l.length ca) (GrF a l) true w.out i mb sb q) (wOut (.slice a l.length ca) (GrF a l) mb sb (writeF (l.map (·.c)) n w (u : Int))) := by
  intro n
  induction n with
  | zero => intro w i q u _ h; omega
  | succ n ih =>
    intro w i q u hu hn ho hlim
    obtain ⟨p, hp⟩ : ∃ p, l[u]? = some p := ⟨_, List.getElem?_eq_getElem hu⟩
    have hpm := List.mem_of_getElem? hp
    have hpo := hok p hpm
    have hin : InI (l.map (·.c)) (u : Int) := ⟨by omega, by simp; omega⟩
    have hcw := hc (u : Int) hin
    have hat : at_ (l.map (·.c)) (u : Int) = p.c := at_map hp
    rw [hat] at hcw
    have hlw := (gone_write (l.map (·.c)) (n + 1) w (u : Int)).lim hlim
    have hlo := hlw.o
    have hls := hlw.s
    have hlc := hlw.c
    have hsa : a.isSome = true := by
      cases a with
      | none => rw [ha rfl] at hu; exact absurd hu (Nat.not_lt_zero _)
      | some b => rfl
    have houts : ∀ x ∈ p.c.items, InI (l.map (·.c)) x := fun x hx => outs_in hg hin (by unfold outs; rw [hat]; exact hx)
    have hkk := hcw.kind
    have htx := hcw.text
    obtain ⟨⟨kind, num0, text, names, items⟩, na, nc, ia, ic⟩ := p
    simp only at hkk htx hat hcw hpo houts
    obtain ⟨gv, hgv⟩ : ∃ gv, gv = Value.slice a l.length ca := ⟨_, rfl⟩
    obtain ⟨F, hF⟩ : ∃ F, F = GrF a l := ⟨_, rfl⟩
    rw [writeF_eq, hat] at hlim
    obtain rfl | rfl | rfl | rfl | rfl | rfl | rfl | rfl | rfl : kind = 0 ∨ kind = 1 ∨ kind = 2 ∨ kind = 3 ∨ kind = 4 ∨ kind = 5 ∨ kind = 6 ∨ kind = 7 ∨ kind = 8 := by omega
    · -- 0: the kind, 48: the byte
      -- 0: the kind
      rw [writeF_eq, hat]
      refine ownC hm Tryz.func35 (by kernel_rfl) rfl rfl (fun _ _ => wM_ok _ _ _ _ _ _ _ _) (fun _ _ => Nat.le_refl _) ?_
      (first | refine wXD ?_ | exact wZD)
      refine Nd.mk ⟨hsa, by omega, by omega⟩ ?_
      (first | refine wXD ?_ | exact wZD)
      refine LdN.agg [.int .i64 0, .int .i64 num0, .string (bs text), .slice na names.length nc, .slice ia items.length ic] rfl (fun w hw => hw.2.2.2.1.1) rfl (fun k hk => by rw [Int.toNat_natCast]; exact grC_get l u k hk hp) ?_
      (first | refine wXD ?_ | exact wZD)
      refine DrawN.planQ [0, 3] [1, 2, 4, 5] [(6, 0)] (by decide +kernel) ?_
      (first | refine wXD ?_ | exact wZD)
      refine callG (WriteByte_m (.slice a l.length ca) (GrF a l) mb sb q true w.out 48 i (by omega)) [0, 1, 2, 3, 4] rfl ⟨rfl, rfl, rfl, rfl, rfl, trivial⟩ rfl fun i2 hi2 => ?_
      (first | refine wXD ?_ | exact wZD)
      -- (i2, q), ⟨hi2, ho.c, ho.s⟩: the index
      exact ⟨(i2, q), ⟨hi2, ho.c, ho.s⟩, rfl, wkE_refl _, wkE_refl _, wkE_refl _, wkE_refl _, wkE_refl _, trivial⟩
    · -- 1: the kind, 84: the byte
      -- 1: the kind
      rw [writeF_eq, hat]
      refine ownC hm Tryz.func35 (by kernel_rfl) rfl rfl (fun _ _ => wM_ok _ _ _ _ _ _ _ _) (fun _ _ => Nat.le_refl _) ?_
      (first | refine wXD ?_ | exact wZD)
      refine Nd.mk ⟨hsa, by omega, by omega⟩ ?_
      (first | refine wXD ?_ | exact wZD)
      refine LdN.agg [.int .i64 1, .int .i64 num0, .string (bs text), .slice na names.length nc, .slice ia items.length ic] rfl (fun w hw => hw.2.2.2.1.1) rfl (fun k hk => by rw [Int.toNat_natCast]; exact grC_get l u k hk hp) ?_
      (first | refine wXD ?_ | exact wZD)
      refine DrawN.planQ [0, 3] [1, 2, 4, 5] [(6, 0)] (by decide +kernel) ?_
      (first | refine wXD ?_ | exact wZD)
      refine callG (WriteByte_m (.slice a l.length ca) (GrF a l) mb sb q true w.out 84 i (by omega)) [0, 1, 2, 3, 4] rfl ⟨rfl, rfl, rfl, rfl, rfl, trivial⟩ rfl fun i2 hi2 => ?_
      (first | refine wXD ?_ | exact wZD)
      -- (i2, q), ⟨hi2, ho.c, ho.s⟩: the index
      exact ⟨(i2, q), ⟨hi2, ho.c, ho.s⟩, rfl, wkE_refl _, wkE_refl _, wkE_refl _, wkE_refl _, wkE_refl _, trivial⟩
    · -- 2: the kind, 70: the byte
      -- 2: the kind
      rw [writeF_eq, hat]
      refine ownC hm Tryz.func35 (by kernel_rfl) rfl rfl (fun _ _ => wM_ok _ _ _ _ _ _ _ _) (fun _ _ => Nat.le_refl _) ?_
      (first | refine wXD ?_ | exact wZD)
      refine Nd.mk ⟨hsa, by omega, by omega⟩ ?_
      (first | refine wXD ?_ | exact wZD)
      refine LdN.agg [.int .i64 2, .int .i64 num0, .string (bs text), .slice na names.length nc, .slice ia items.length ic] rfl (fun w hw => hw.2.2.2.1.1) rfl (fun k hk => by rw [Int.toNat_natCast]; exact grC_get l u k hk hp) ?_
      (first | refine wXD ?_ | exact wZD)
      refine DrawN.planQ [0, 3] [1, 2, 4, 5] [(6, 0)] (by decide +kernel) ?_
      (first | refine wXD ?_ | exact wZD)
      refine callG (WriteByte_m (.slice a l.length ca) (GrF a l) mb sb q true w.out 70 i (by omega)) [0, 1, 2, 3, 4] rfl ⟨rfl, rfl, rfl, rfl, rfl, trivial⟩ rfl fun i2 hi2 => ?_
      (first | refine wXD ?_ | exact wZD)
      -- (i2, q), ⟨hi2, ho.c, ho.s⟩: the index
      exact ⟨(i2, q), ⟨hi2, ho.c, ho.s⟩, rfl, wkE_refl _, wkE_refl _, wkE_refl _, wkE_refl _, wkE_refl _, trivial⟩
    · have hnb := hcw.num rfl
      have hmx : maxN = 1000000000000000 := rfl
      simp only at hnb
      -- 3: the kind
      rw [writeF_eq, hat]
      refine ownC hm Tryz.func35 (by kernel_rfl) rfl rfl (fun _ _ => wM_ok _ _ _ _ _ _ _ _) (fun _ _ => Nat.le_refl _) ?_
      (first | refine wXD ?_ | exact wZD)
      refine Nd.mk ⟨hsa, by omega, by omega⟩ ?_
      (first | refine wXD ?_ | exact wZD)
      refine LdN.agg [.int .i64 3, .int .i64 num0, .string (bs text), .slice na names.length nc, .slice ia items.length ic] rfl (fun w hw => hw.2.2.2.1.1) rfl (fun k hk => by rw [Int.toNat_natCast]; exact grC_get l u k hk hp) ?_
      (first | refine wXD ?_ | exact wZD)
      refine brd_dec (fun h => ?_) (fun h => ?_)
      · have hs : ((Marshal.sgn num0 : Nat) : Int) = -2 * num0 - 1 := by unfold Marshal.sgn; rw [if_pos h]; omega
        -- IntKind.i64.wrap (IntKind.i64.wrap (-2 * num0) - 1): how the number was made
        have hsl : Marshal.sgn num0 ≤ 2000000000000000 := by unfold Marshal.sgn; split <;> omega
        (first | refine wXD ?_ | exact wZD)
        try rw [show IntKind.i64.wrap (IntKind.i64.wrap (-2 * num0) - 1) = ((Marshal.sgn num0 : Nat) : Int) by first | exact hs.symm | (rw [hs, wrap_i64 (x := -2 * num0) (by omega), wrap_i64 (by omega)])]
        generalize hk : Marshal.sgn num0 = k at hs hsl ⊢
        refine DrawN.planQ [0, 3] [1, 2, 4, 5] [(6, 0)] (by decide +kernel) ?_
        (first | refine wXD ?_ | exact wZD)
        -- k: the number, 105: the bytes ahead
        have hnl := num_len (n := k) (by omega)
        refine callQ (wide_c (k) (by omega) _) ?_
        (first | refine wXD ?_ | exact wZD)
        refine Nd.mk (by rw [bs_size]; show 1 + _ < _; omega) ?_
        rw [show (⟨#[105]⟩ : ByteArray) = bs [105] from rfl, bs_app]
        (first | refine wXD ?_ | exact wZD)
        -- w.out: what is there, [105] ++ num k: what is written, i: the Builder's place, ho.b: its word, q: the maps
        refine callG (WriteString_m (.slice a l.length ca) (GrF a l) mb sb (q) true (w.out) ([105] ++ num k) i ho.b (by first | omega | (simp; omega))) [0, 1, 2, 3, 4] rfl ⟨rfl, rfl, rfl, rfl, rfl, trivial⟩ rfl fun i2 hi2 => ?_
        (first | refine wXD ?_ | exact wZD)
        have he : writeC (writeF (l.map (·.c)) n) ⟨3, num0, text, names, items⟩ w (u : Int) = putW w (105 :: num k) := by rw [← hk]; rfl
        rw [he]
        -- (i2, q), ⟨hi2, ho.c, ho.s⟩: the index
        exact ⟨(i2, q), ⟨hi2, ho.c, ho.s⟩, rfl, wkE_refl _, wkE_refl _, wkE_refl _, wkE_refl _, wkE_refl _, trivial⟩
      · have hs : ((Marshal.sgn num0 : Nat) : Int) = 2 * num0 := by unfold Marshal.sgn; rw [if_neg h]; omega
        -- 2 * num0: how the number was made
        have hsl : Marshal.sgn num0 ≤ 2000000000000000 := by unfold Marshal.sgn; split <;> omega
        (first | refine wXD ?_ | exact wZD)
        try rw [show 2 * num0 = ((Marshal.sgn num0 : Nat) : Int) by first | exact hs.symm | (rw [hs, wrap_i64 (x := -2 * num0) (by omega), wrap_i64 (by omega)])]
        generalize hk : Marshal.sgn num0 = k at hs hsl ⊢
        refine DrawN.planQ [0, 3] [1, 2, 4, 5] [(6, 0)] (by decide +kernel) ?_
        (first | refine wXD ?_ | exact wZD)
        -- k: the number, 105: the bytes ahead
        have hnl := num_len (n := k) (by omega)
        refine callQ (wide_c (k) (by omega) _) ?_
        (first | refine wXD ?_ | exact wZD)
        refine Nd.mk (by rw [bs_size]; show 1 + _ < _; omega) ?_
        rw [show (⟨#[105]⟩ : ByteArray) = bs [105] from rfl, bs_app]
        (first | refine wXD ?_ | exact wZD)
        -- w.out: what is there, [105] ++ num k: what is written, i: the Builder's place, ho.b: its word, q: the maps
        refine callG (WriteString_m (.slice a l.length ca) (GrF a l) mb sb (q) true (w.out) ([105] ++ num k) i ho.b (by first | omega | (simp; omega))) [0, 1, 2, 3, 4] rfl ⟨rfl, rfl, rfl, rfl, rfl, trivial⟩ rfl fun i2 hi2 => ?_
        (first | refine wXD ?_ | exact wZD)
        have he : writeC (writeF (l.map (·.c)) n) ⟨3, num0, text, names, items⟩ w (u : Int) = putW w (105 :: num k) := by rw [← hk]; rfl
        rw [he]
        -- (i2, q), ⟨hi2, ho.c, ho.s⟩: the index
        exact ⟨(i2, q), ⟨hi2, ho.c, ho.s⟩, rfl, wkE_refl _, wkE_refl _, wkE_refl _, wkE_refl _, wkE_refl _, trivial⟩
    · -- 4: the kind
      rw [writeF_eq, hat]
      refine ownC hm Tryz.func35 (by kernel_rfl) rfl rfl (fun _ _ => wM_ok _ _ _ _ _ _ _ _) (fun _ _ => Nat.le_refl _) ?_
      (first | refine wXD ?_ | exact wZD)
      refine Nd.mk ⟨hsa, by omega, by omega⟩ ?_
      (first | refine wXD ?_ | exact wZD)
      refine LdN.agg [.int .i64 4, .int .i64 num0, .string (bs text), .slice na names.length nc, .slice ia items.length ic] rfl (fun w hw => hw.2.2.2.1.1) rfl (fun k hk => by rw [Int.toNat_natCast]; exact grC_get l u k hk hp) ?_
      (first | refine wXD ?_ | exact wZD)
      -- the cell was met
      refine ReadW.askKey (et := 3) (p := (u : Int)) (idxR w.cells) rfl (by kernel_rfl) intT rfl rfl rfl rfl (fun w hw => hw.2.1) ho.c ?_
      rw [idxR_look]
      by_cases hm : (u : Int) ∈ w.cells
      · have hi := List.idxOf_lt_length_iff.2 hm
        rw [if_pos hm, show writeC (writeF (l.map (·.c)) n) ⟨4, num0, text, names, items⟩ w (u : Int) = putW w (64 :: num (w.cells.idxOf (u : Int))) from writeC_met (by simp) hm]
        generalize w.cells.idxOf (u : Int) = k at hi ⊢
        (first | refine wXD ?_ | exact wZD)
        refine DrawN.planQ [0, 3] [1, 2, 4, 5] [(6, 0)] (by decide +kernel) ?_
        (first | refine wXD ?_ | exact wZD)
        -- k: the number, 64: the bytes ahead
        have hnl := num_len (n := k) (by omega)
        refine callQ (wide_c (k) (by omega) _) ?_
        (first | refine wXD ?_ | exact wZD)
        refine Nd.mk (by rw [bs_size]; show 1 + _ < _; omega) ?_
        rw [show (⟨#[64]⟩ : ByteArray) = bs [64] from rfl, bs_app]
        (first | refine wXD ?_ | exact wZD)
        -- w.out: what is there, [64] ++ num k: what is written, i: the Builder's place, ho.b: its word, q: the maps
        refine callG (WriteString_m (.slice a l.length ca) (GrF a l) mb sb (q) true (w.out) ([64] ++ num k) i ho.b (by first | omega | (simp; omega))) [0, 1, 2, 3, 4] rfl ⟨rfl, rfl, rfl, rfl, rfl, trivial⟩ rfl fun i2 hi2 => ?_
        (first | refine wXD ?_ | exact wZD)
        -- (i2, q), ⟨hi2, ho.c, ho.s⟩: the index
        exact ⟨(i2, q), ⟨hi2, ho.c, ho.s⟩, rfl, wkE_refl _, wkE_refl _, wkE_refl _, wkE_refl _, wkE_refl _, trivial⟩
      rw [if_neg hm]
      (first | refine wXD ?_ | exact wZD)
      refine DrawN.planQ [0, 4, 5] [1, 2, 3, 6, 7, 8, 9] [(10, 0)] (by decide +kernel) ?_
      (first | refine wXD ?_ | exact wZD)
      refine ReadW.mapLen (kt := 3) (et := 3) w.cells.length rfl rfl rfl (by kernel_rfl) rfl (fun w hw => hw.2.1) (by rw [← Array.length_toList, ho.c.len, idxR_len]) ?_
      (first | refine wXD ?_ | exact wZD)
      refine EffW.setMap (et := 3) (p := (u : Int)) 2 (idxR w.cells) rfl (by kernel_rfl) intT rfl rfl rfl rfl ho.c fun es2 c2 hk2 => ?_
      rw [idxR_put hm] at hk2
      (first | refine wXD ?_ | exact wZD)
      obtain ⟨w1, hw1⟩ : ∃ w1 : Wr, w1 = { w with cells := w.cells ++ [(u : Int)] } := ⟨_, rfl⟩
      have ho1 : WOk w1 (i, ⟨es2, c2, q.se, q.sc⟩) := by rw [hw1]; exact ⟨ho.b, hk2, ho.s⟩
      have ho1o : w1.out = w.out := by rw [hw1]
      have hlt := free_lt hin hm (t := w.cells ++ [(u : Int)]) (fun x hx => by simp [hx]) (by simp)
      have he : writeC (writeF (l.map (·.c)) n) ⟨4, num0, text, names, items⟩ w (u : Int) = putW (putW w1 [34]) (num text.length ++ text) := by
        rw [writeC_new (by simp) hm, if_pos rfl, hw1]
        unfold putW
        simp
      rw [he, ← ho1o]
      rw [← ho1o] at hlo
      -- w1.out: what is there, [34]: what is written, i: the Builder's place, ho1.b: its word, ⟨es2, c2, q.se, q.sc⟩: the maps
      refine callG (WriteString_m (.slice a l.length ca) (GrF a l) mb sb (⟨es2, c2, q.se, q.sc⟩) true (w1.out) ([34]) i ho1.b (by first | omega | (simp; omega))) [0, 1, 2, 3, 4] rfl ⟨rfl, rfl, rfl, rfl, rfl, trivial⟩ rfl fun i2 hi2 => ?_
      (first | refine wXD ?_ | exact wZD)
      refine callG (text_m (.slice a l.length ca) (GrF a l) mb sb (putW w1 [34]) text i2 ⟨es2, c2, q.se, q.sc⟩ ⟨hi2, ho1.c, ho1.s⟩ (by rw [put_len]; simp; omega) (by omega)) [0, 1, 2, 3, 4] rfl ⟨rfl, rfl, rfl, rfl, rfl, trivial⟩ rfl fun x hx => ?_
      (first | refine wXD ?_ | exact wZD)
      -- x, hx: the index
      exact ⟨x, hx, rfl, wkE_refl _, wkE_refl _, wkE_refl _, wkE_refl _, wkE_refl _, trivial⟩
    · have hsy := hcw.sym rfl
      simp only at hsy
      -- 5: the kind
      rw [writeF_eq, hat]
      refine ownC hm Tryz.func35 (by kernel_rfl) rfl rfl (fun _ _ => wM_ok _ _ _ _ _ _ _ _) (fun _ _ => Nat.le_refl _) ?_
      (first | refine wXD ?_ | exact wZD)
      refine Nd.mk ⟨hsa, by omega, by omega⟩ ?_
      (first | refine wXD ?_ | exact wZD)
      refine LdN.agg [.int .i64 5, .int .i64 num0, .string (bs text), .slice na names.length nc, .slice ia items.length ic] rfl (fun w hw => hw.2.2.2.1.1) rfl (fun k hk => by rw [Int.toNat_natCast]; exact grC_get l u k hk hp) ?_
      (first | refine wXD ?_ | exact wZD)
      have he : writeC (writeF (l.map (·.c)) n) ⟨5, num0, text, names, items⟩ w (u : Int) = symW w text := rfl
      rw [he]
      refine callG (symbol_m (.slice a l.length ca) (GrF a l) mb sb w text i q ho (by omega) (by omega) (by omega)) [0, 1, 2, 3, 4] rfl ⟨rfl, rfl, rfl, rfl, rfl, trivial⟩ rfl fun x hx => ?_
      (first | refine wXD ?_ | exact wZD)
      -- x, hx: the index
      exact ⟨x, hx, rfl, wkE_refl _, wkE_refl _, wkE_refl _, wkE_refl _, wkE_refl _, trivial⟩
    · -- 6: the kind
      rw [writeF_eq, hat]
      refine ownC hm Tryz.func35 (by kernel_rfl) rfl rfl (fun _ _ => wM_ok _ _ _ _ _ _ _ _) (fun _ _ => Nat.le_refl _) ?_
      (first | refine wXD ?_ | exact wZD)
      refine Nd.mk ⟨hsa, by omega, by omega⟩ ?_
      (first | refine wXD ?_ | exact wZD)
      refine LdN.agg [.int .i64 6, .int .i64 num0, .string (bs text), .slice na names.length nc, .slice ia items.length ic] rfl (fun w hw => hw.2.2.2.1.1) rfl (fun k hk => by rw [Int.toNat_natCast]; exact grC_get l u k hk hp) ?_
      (first | refine wXD ?_ | exact wZD)
      -- the cell was met
      refine ReadW.askKey (et := 3) (p := (u : Int)) (idxR w.cells) rfl (by kernel_rfl) intT rfl rfl rfl rfl (fun w hw => hw.2.1) ho.c ?_
      rw [idxR_look]
      by_cases hm : (u : Int) ∈ w.cells
      · have hi := List.idxOf_lt_length_iff.2 hm
        rw [if_pos hm, show writeC (writeF (l.map (·.c)) n) ⟨6, num0, text, names, items⟩ w (u : Int) = putW w (64 :: num (w.cells.idxOf (u : Int))) from writeC_met (by simp) hm]
        generalize w.cells.idxOf (u : Int) = k at hi ⊢
        (first | refine wXD ?_ | exact wZD)
        refine DrawN.planQ [0, 3] [1, 2, 4, 5] [(6, 0)] (by decide +kernel) ?_
        (first | refine wXD ?_ | exact wZD)
        -- k: the number, 64: the bytes ahead
        have hnl := num_len (n := k) (by omega)
        refine callQ (wide_c (k) (by omega) _) ?_
        (first | refine wXD ?_ | exact wZD)
        refine Nd.mk (by rw [bs_size]; show 1 + _ < _; omega) ?_
        rw [show (⟨#[64]⟩ : ByteArray) = bs [64] from rfl, bs_app]
        (first | refine wXD ?_ | exact wZD)
        -- w.out: what is there, [64] ++ num k: what is written, i: the Builder's place, ho.b: its word, q: the maps
        refine callG (WriteString_m (.slice a l.length ca) (GrF a l) mb sb (q) true (w.out) ([64] ++ num k) i ho.b (by first | omega | (simp; omega))) [0, 1, 2, 3, 4] rfl ⟨rfl, rfl, rfl, rfl, rfl, trivial⟩ rfl fun i2 hi2 => ?_
        (first | refine wXD ?_ | exact wZD)
        -- (i2, q), ⟨hi2, ho.c, ho.s⟩: the index
        exact ⟨(i2, q), ⟨hi2, ho.c, ho.s⟩, rfl, wkE_refl _, wkE_refl _, wkE_refl _, wkE_refl _, wkE_refl _, trivial⟩
      rw [if_neg hm]
      (first | refine wXD ?_ | exact wZD)
      refine DrawN.planQ [0, 4, 5] [1, 2, 3, 6, 7, 8, 9] [(10, 0)] (by decide +kernel) ?_
      (first | refine wXD ?_ | exact wZD)
      refine ReadW.mapLen (kt := 3) (et := 3) w.cells.length rfl rfl rfl (by kernel_rfl) rfl (fun w hw => hw.2.1) (by rw [← Array.length_toList, ho.c.len, idxR_len]) ?_
      (first | refine wXD ?_ | exact wZD)
      refine EffW.setMap (et := 3) (p := (u : Int)) 2 (idxR w.cells) rfl (by kernel_rfl) intT rfl rfl rfl rfl ho.c fun es2 c2 hk2 => ?_
      rw [idxR_put hm] at hk2
      (first | refine wXD ?_ | exact wZD)
      obtain ⟨w1, hw1⟩ : ∃ w1 : Wr, w1 = { w with cells := w.cells ++ [(u : Int)] } := ⟨_, rfl⟩
      have ho1 : WOk w1 (i, ⟨es2, c2, q.se, q.sc⟩) := by rw [hw1]; exact ⟨ho.b, hk2, ho.s⟩
      have ho1o : w1.out = w.out := by rw [hw1]
      have hlt := free_lt hin hm (t := w.cells ++ [(u : Int)]) (fun x hx => by simp [hx]) (by simp)
      have hlen := hcw.len
      simp only at hlen
      refine DrawN.planQ [0, 3] [1, 2, 4, 5, 6, 7] [(8, 0)] (by decide +kernel) ?_
      (first | refine wXD ?_ | exact wZD)
      -- items.length: the number, 91: the bytes ahead
      have hnl := num_len (n := items.length) (by omega)
      refine callQ (wide_c (items.length) (by omega) _) ?_
      (first | refine wXD ?_ | exact wZD)
      refine Nd.mk (by rw [bs_size]; show 1 + _ < _; omega) ?_
      rw [show (⟨#[91]⟩ : ByteArray) = bs [91] from rfl, bs_app]
      (first | refine wXD ?_ | exact wZD)
      have he : writeC (writeF (l.map (·.c)) n) ⟨6, num0, text, names, items⟩ w (u : Int) = items.foldl (writeF (l.map (·.c)) n) (putW w1 (91 :: num items.length)) := by
        rw [writeC_new (by simp) hm, if_neg (by simp), if_pos rfl, hw1]
      -- w.out: what is there, [91] ++ num items.length: what is written, i: the Builder's place, ho.b: its word, ⟨es2, c2, q.se, q.sc⟩: the maps
      refine callG (WriteString_m (.slice a l.length ca) (GrF a l) mb sb (⟨es2, c2, q.se, q.sc⟩) true (w.out) ([91] ++ num items.length) i ho.b (by first | omega | (simp; omega))) [0, 1, 2, 3, 4] rfl ⟨rfl, rfl, rfl, rfl, rfl, trivial⟩ rfl fun i2 hi2 => ?_
      (first | refine wXD ?_ | exact wZD)
      -- 6: the kind, putW w1 (91 :: num items.length): the writer ahead of the items, ⟨es2, c2, q.se, q.sc⟩: its maps, ⟨by rw [put_out, ho1o]; exact hi2, ho1.c, ho1.s⟩: its word
      obtain ⟨w2, hw2⟩ : ∃ w2 : Wr, w2 = putW w1 (91 :: num items.length) := ⟨_, rfl⟩
      have ho2 : WOk w2 (i2, ⟨es2, c2, q.se, q.sc⟩) := by rw [hw2]; exact ⟨by rw [put_out, ho1o]; exact hi2, ho1.c, ho1.s⟩
      rw [he, ← hw2]
      have hl2 : Lim (items.foldl (writeF (l.map (·.c)) n) w2) := by rw [hw2, ← he]; exact hlim
      have hfr : ∀ k, freeN (l.map (·.c)) ((items.take k).foldl (writeF (l.map (·.c)) n) w2).cells < n := fun k => by
        have h1 := free_mono (g := l.map (·.c)) (gone_fold (gone_write (l.map (·.c)) n) (items.take k) w2).sub
        have h2 : w2.cells = w.cells ++ [(u : Int)] := by rw [hw2, put_cells, hw1]
        rw [h2] at h1
        omega
      refine spec_of_exec Go.Proofs.YtgogonnnojcioaaGreatDoor.hm Tryz.func60 (by kernel_rfl) rfl rfl ?_
      (first | refine wXD ?_ | exact wZD)
      refine LoopN.intro (Nat × BSt × MapP) (fun ⟨k, x⟩ => k ≤ items.length ∧ WOk ((items.take k).foldl (writeF (l.map (·.c)) n) w2) x)
        (fun ⟨k, _⟩ => mkS Tryz.f60.ntmps 0 [(0, .c (.lp 0 0)), (6, .c (.v (.slice ia items.length ic))), (7, .c (.v (.int .i64 (items.length : Int)))), (8, .c (.v (.int .i64 (k : Int))))])
        (fun ⟨k, x⟩ => wM (.slice a l.length ca) (GrF a l) true ((items.take k).foldl (writeF (l.map (·.c)) n) w2).out x.1 mb sb x.2 ++ [.blk 57 [.v (.int .i64 6), .v (.int .i64 num0), .v (.string (bs text)), .v (.slice na names.length nc), .v (.slice ia items.length ic)]]) (fun ⟨k, _⟩ => items.length - k) [] rfl (fun _ => rfl) (fun _ => rfl) (fun _ _ => okHB_eq rfl) ?_ ?_
      · refine ⟨(0, i2, ⟨es2, c2, q.se, q.sc⟩), ⟨Nat.zero_le _, ho2⟩, ?_, ?_⟩
        · (repeat' (first | exact trivial | refine And.intro (by with_reducible rfl) ?_ | (with_reducible exact wkC_refl _) | (with_reducible exact wkCs_refl _) | refine And.intro ?_ ?_))
          all_goals rfl
        · show wkH _ (wM _ _ true w2.out i2 mb sb ⟨es2, c2, q.se, q.sc⟩ ++ _)
          rw [hw2, put_out, ho1o]
          exact ⟨wkE_refl _, wkE_refl _, wkE_refl _, wkE_refl _, wkE_refl _, wkE_refl _, trivial⟩
      rintro ⟨k, x0⟩ ⟨hk, hx0⟩
      obtain ⟨i3, q3⟩ := x0
      (first | refine wXD ?_ | exact wZD)
      refine brd_dec (fun h1 => ?_) (fun h1 => ?_)
      · -- an item: what is known of it
        obtain ⟨x, hx⟩ : ∃ z, items[k]? = some z := ⟨_, List.getElem?_eq_getElem (by omega)⟩
        have hxi := houts x (List.mem_of_getElem? hx)
        obtain ⟨xn, rfl⟩ : ∃ xn : Nat, x = (xn : Int) := ⟨x.toNat, by have := hxi.1; omega⟩
        have hxl : xn < l.length := by have := hxi.2; simp only [List.length_map] at this; omega
        have hxa : ia.isSome = true := by
          cases ia with
          | none => have h0 : items = [] := hpo.ia rfl; rw [h0] at hx; cases hx
          | some b => rfl
        (first | refine wXD ?_ | exact wZD)
        refine Nd.mk ⟨hxa, by omega, by omega⟩ ?_
        (first | refine wXD ?_ | exact wZD)
        refine LdN.one (.int .i64 (xn : Int)) rfl (fun w hw => (hw.2.2.2.1.2 _ hpm).2) (by rw [Int.toNat_natCast]; show (iC items)[k * 1]? = _; rw [Nat.mul_one]; exact iC_get hx) ?_
        (first | refine wXD ?_ | exact wZD)
        have hnx := fold_next (f := writeF (l.map (·.c)) n) (b := w2) hx
        refine callG (ih ((items.take k).foldl (writeF (l.map (·.c)) n) w2) i3 q3 xn hxl (hfr k) hx0 (by rw [← hnx]; exact fold_lim (gone_write _ n) hl2 (k + 1))) [0, 1, 2, 3, 4] rfl ⟨rfl, rfl, rfl, rfl, rfl, trivial⟩ rfl fun y hy => ?_
        rw [← hnx] at hy ⊢
        (first | refine wXD ?_ | exact wZD)
        refine ⟨(k + 1, y), ⟨by omega, hy⟩, by show items.length - (k + 1) < items.length - k; omega, ?_, wkE_refl _, wkE_refl _, wkE_refl _, wkE_refl _, wkE_refl _, wkE_refl _, trivial⟩
        (repeat' (first | exact trivial | refine And.intro (by with_reducible rfl) ?_ | (with_reducible exact wkC_refl _) | (with_reducible exact wkCs_refl _) | refine And.intro ?_ ?_))
        all_goals first | rfl | exact av_int (by rw [wrap_i64 (by omega)]; omega)
      · obtain rfl : k = items.length := by omega
        rw [List.take_length] at hx0 ⊢
        (first | refine wXD ?_ | exact wZD)
        -- (i3, q3), hx0: the index
        exact ⟨(i3, q3), hx0, rfl, wkE_refl _, wkE_refl _, wkE_refl _, wkE_refl _, wkE_refl _, trivial⟩
    · -- 7: the kind
      rw [writeF_eq, hat]
      refine ownC hm Tryz.func35 (by kernel_rfl) rfl rfl (fun _ _ => wM_ok _ _ _ _ _ _ _ _) (fun _ _ => Nat.le_refl _) ?_
      (first | refine wXD ?_ | exact wZD)
      refine Nd.mk ⟨hsa, by omega, by omega⟩ ?_
      (first | refine wXD ?_ | exact wZD)
      refine LdN.agg [.int .i64 7, .int .i64 num0, .string (bs text), .slice na names.length nc, .slice ia items.length ic] rfl (fun w hw => hw.2.2.2.1.1) rfl (fun k hk => by rw [Int.toNat_natCast]; exact grC_get l u k hk hp) ?_
      (first | refine wXD ?_ | exact wZD)
      -- the cell was met
      refine ReadW.askKey (et := 3) (p := (u : Int)) (idxR w.cells) rfl (by kernel_rfl) intT rfl rfl rfl rfl (fun w hw => hw.2.1) ho.c ?_
      rw [idxR_look]
      by_cases hm : (u : Int) ∈ w.cells
      · have hi := List.idxOf_lt_length_iff.2 hm
        rw [if_pos hm, show writeC (writeF (l.map (·.c)) n) ⟨7, num0, text, names, items⟩ w (u : Int) = putW w (64 :: num (w.cells.idxOf (u : Int))) from writeC_met (by simp) hm]
        generalize w.cells.idxOf (u : Int) = k at hi ⊢
        (first | refine wXD ?_ | exact wZD)
        refine DrawN.planQ [0, 3] [1, 2, 4, 5] [(6, 0)] (by decide +kernel) ?_
        (first | refine wXD ?_ | exact wZD)
        -- k: the number, 64: the bytes ahead
        have hnl := num_len (n := k) (by omega)
        refine callQ (wide_c (k) (by omega) _) ?_
        (first | refine wXD ?_ | exact wZD)
        refine Nd.mk (by rw [bs_size]; show 1 + _ < _; omega) ?_
        rw [show (⟨#[64]⟩ : ByteArray) = bs [64] from rfl, bs_app]
        (first | refine wXD ?_ | exact wZD)
        -- w.out: what is there, [64] ++ num k: what is written, i: the Builder's place, ho.b: its word, q: the maps
        refine callG (WriteString_m (.slice a l.length ca) (GrF a l) mb sb (q) true (w.out) ([64] ++ num k) i ho.b (by first | omega | (simp; omega))) [0, 1, 2, 3, 4] rfl ⟨rfl, rfl, rfl, rfl, rfl, trivial⟩ rfl fun i2 hi2 => ?_
        (first | refine wXD ?_ | exact wZD)
        -- (i2, q), ⟨hi2, ho.c, ho.s⟩: the index
        exact ⟨(i2, q), ⟨hi2, ho.c, ho.s⟩, rfl, wkE_refl _, wkE_refl _, wkE_refl _, wkE_refl _, wkE_refl _, trivial⟩
      rw [if_neg hm]
      (first | refine wXD ?_ | exact wZD)
      refine DrawN.planQ [0, 4, 5] [1, 2, 3, 6, 7, 8, 9] [(10, 0)] (by decide +kernel) ?_
      (first | refine wXD ?_ | exact wZD)
      refine ReadW.mapLen (kt := 3) (et := 3) w.cells.length rfl rfl rfl (by kernel_rfl) rfl (fun w hw => hw.2.1) (by rw [← Array.length_toList, ho.c.len, idxR_len]) ?_
      (first | refine wXD ?_ | exact wZD)
      refine EffW.setMap (et := 3) (p := (u : Int)) 2 (idxR w.cells) rfl (by kernel_rfl) intT rfl rfl rfl rfl ho.c fun es2 c2 hk2 => ?_
      rw [idxR_put hm] at hk2
      (first | refine wXD ?_ | exact wZD)
      obtain ⟨w1, hw1⟩ : ∃ w1 : Wr, w1 = { w with cells := w.cells ++ [(u : Int)] } := ⟨_, rfl⟩
      have ho1 : WOk w1 (i, ⟨es2, c2, q.se, q.sc⟩) := by rw [hw1]; exact ⟨ho.b, hk2, ho.s⟩
      have ho1o : w1.out = w.out := by rw [hw1]
      have hlt := free_lt hin hm (t := w.cells ++ [(u : Int)]) (fun x hx => by simp [hx]) (by simp)
      have hlen := hcw.len
      simp only at hlen
      refine DrawN.planQ [0, 3] [1, 2, 4, 5, 6, 7, 8] [(9, 0)] (by decide +kernel) ?_
      (first | refine wXD ?_ | exact wZD)
      rw [show ((items.length : Int)).tdiv 2 = ((items.length / 2 : Nat) : Int) from (Int.ofNat_tdiv _ _).symm]
      try rw [wrap_i64 (x := ((items.length / 2 : Nat) : Int)) (by omega)]
      -- items.length / 2: the number, 123: the bytes ahead
      have hnl := num_len (n := items.length / 2) (by omega)
      refine callQ (wide_c (items.length / 2) (by omega) _) ?_
      (first | refine wXD ?_ | exact wZD)
      refine Nd.mk (by rw [bs_size]; show 1 + _ < _; omega) ?_
      rw [show (⟨#[123]⟩ : ByteArray) = bs [123] from rfl, bs_app]
      (first | refine wXD ?_ | exact wZD)
      have he : writeC (writeF (l.map (·.c)) n) ⟨7, num0, text, names, items⟩ w (u : Int) = items.foldl (writeF (l.map (·.c)) n) (putW w1 (123 :: num (items.length / 2))) := by
        rw [writeC_new (by simp) hm, if_neg (by simp), if_neg (by simp), if_pos rfl, hw1]
      -- w.out: what is there, [123] ++ num (items.length / 2): what is written, i: the Builder's place, ho.b: its word, ⟨es2, c2, q.se, q.sc⟩: the maps
      refine callG (WriteString_m (.slice a l.length ca) (GrF a l) mb sb (⟨es2, c2, q.se, q.sc⟩) true (w.out) ([123] ++ num (items.length / 2)) i ho.b (by first | omega | (simp; omega))) [0, 1, 2, 3, 4] rfl ⟨rfl, rfl, rfl, rfl, rfl, trivial⟩ rfl fun i2 hi2 => ?_
      (first | refine wXD ?_ | exact wZD)
      -- 7: the kind, putW w1 (123 :: num (items.length / 2)): the writer ahead of the items, ⟨es2, c2, q.se, q.sc⟩: its maps, ⟨by rw [put_out, ho1o]; exact hi2, ho1.c, ho1.s⟩: its word
      obtain ⟨w2, hw2⟩ : ∃ w2 : Wr, w2 = putW w1 (123 :: num (items.length / 2)) := ⟨_, rfl⟩
      have ho2 : WOk w2 (i2, ⟨es2, c2, q.se, q.sc⟩) := by rw [hw2]; exact ⟨by rw [put_out, ho1o]; exact hi2, ho1.c, ho1.s⟩
      rw [he, ← hw2]
      have hl2 : Lim (items.foldl (writeF (l.map (·.c)) n) w2) := by rw [hw2, ← he]; exact hlim
      have hfr : ∀ k, freeN (l.map (·.c)) ((items.take k).foldl (writeF (l.map (·.c)) n) w2).cells < n := fun k => by
        have h1 := free_mono (g := l.map (·.c)) (gone_fold (gone_write (l.map (·.c)) n) (items.take k) w2).sub
        have h2 : w2.cells = w.cells ++ [(u : Int)] := by rw [hw2, put_cells, hw1]
        rw [h2] at h1
        omega
      refine spec_of_exec Go.Proofs.YtgogonnnojcioaaGreatDoor.hm Tryz.func60 (by kernel_rfl) rfl rfl ?_
      (first | refine wXD ?_ | exact wZD)
      refine LoopN.intro (Nat × BSt × MapP) (fun ⟨k, x⟩ => k ≤ items.length ∧ WOk ((items.take k).foldl (writeF (l.map (·.c)) n) w2) x)
        (fun ⟨k, _⟩ => mkS Tryz.f60.ntmps 0 [(0, .c (.lp 0 0)), (6, .c (.v (.slice ia items.length ic))), (7, .c (.v (.int .i64 (items.length : Int)))), (8, .c (.v (.int .i64 (k : Int))))])
        (fun ⟨k, x⟩ => wM (.slice a l.length ca) (GrF a l) true ((items.take k).foldl (writeF (l.map (·.c)) n) w2).out x.1 mb sb x.2 ++ [.blk 57 [.v (.int .i64 7), .v (.int .i64 num0), .v (.string (bs text)), .v (.slice na names.length nc), .v (.slice ia items.length ic)]]) (fun ⟨k, _⟩ => items.length - k) [] rfl (fun _ => rfl) (fun _ => rfl) (fun _ _ => okHB_eq rfl) ?_ ?_
      · refine ⟨(0, i2, ⟨es2, c2, q.se, q.sc⟩), ⟨Nat.zero_le _, ho2⟩, ?_, ?_⟩
        · (repeat' (first | exact trivial | refine And.intro (by with_reducible rfl) ?_ | (with_reducible exact wkC_refl _) | (with_reducible exact wkCs_refl _) | refine And.intro ?_ ?_))
          all_goals rfl
        · show wkH _ (wM _ _ true w2.out i2 mb sb ⟨es2, c2, q.se, q.sc⟩ ++ _)
          rw [hw2, put_out, ho1o]
          exact ⟨wkE_refl _, wkE_refl _, wkE_refl _, wkE_refl _, wkE_refl _, wkE_refl _, trivial⟩
      rintro ⟨k, x0⟩ ⟨hk, hx0⟩
      obtain ⟨i3, q3⟩ := x0
      (first | refine wXD ?_ | exact wZD)
      refine brd_dec (fun h1 => ?_) (fun h1 => ?_)
      · -- an item: what is known of it
        obtain ⟨x, hx⟩ : ∃ z, items[k]? = some z := ⟨_, List.getElem?_eq_getElem (by omega)⟩
        have hxi := houts x (List.mem_of_getElem? hx)
        obtain ⟨xn, rfl⟩ : ∃ xn : Nat, x = (xn : Int) := ⟨x.toNat, by have := hxi.1; omega⟩
        have hxl : xn < l.length := by have := hxi.2; simp only [List.length_map] at this; omega
        have hxa : ia.isSome = true := by
          cases ia with
          | none => have h0 : items = [] := hpo.ia rfl; rw [h0] at hx; cases hx
          | some b => rfl
        (first | refine wXD ?_ | exact wZD)
        refine Nd.mk ⟨hxa, by omega, by omega⟩ ?_
        (first | refine wXD ?_ | exact wZD)
        refine LdN.one (.int .i64 (xn : Int)) rfl (fun w hw => (hw.2.2.2.1.2 _ hpm).2) (by rw [Int.toNat_natCast]; show (iC items)[k * 1]? = _; rw [Nat.mul_one]; exact iC_get hx) ?_
        (first | refine wXD ?_ | exact wZD)
        have hnx := fold_next (f := writeF (l.map (·.c)) n) (b := w2) hx
        refine callG (ih ((items.take k).foldl (writeF (l.map (·.c)) n) w2) i3 q3 xn hxl (hfr k) hx0 (by rw [← hnx]; exact fold_lim (gone_write _ n) hl2 (k + 1))) [0, 1, 2, 3, 4] rfl ⟨rfl, rfl, rfl, rfl, rfl, trivial⟩ rfl fun y hy => ?_
        rw [← hnx] at hy ⊢
        (first | refine wXD ?_ | exact wZD)
        refine ⟨(k + 1, y), ⟨by omega, hy⟩, by show items.length - (k + 1) < items.length - k; omega, ?_, wkE_refl _, wkE_refl _, wkE_refl _, wkE_refl _, wkE_refl _, wkE_refl _, trivial⟩
        (repeat' (first | exact trivial | refine And.intro (by with_reducible rfl) ?_ | (with_reducible exact wkC_refl _) | (with_reducible exact wkCs_refl _) | refine And.intro ?_ ?_))
        all_goals first | rfl | exact av_int (by rw [wrap_i64 (by omega)]; omega)
      · obtain rfl : k = items.length := by omega
        rw [List.take_length] at hx0 ⊢
        (first | refine wXD ?_ | exact wZD)
        -- (i3, q3), hx0: the index
        exact ⟨(i3, q3), hx0, rfl, wkE_refl _, wkE_refl _, wkE_refl _, wkE_refl _, wkE_refl _, trivial⟩
    · -- 8: the kind
      rw [writeF_eq, hat]
      refine ownC hm Tryz.func35 (by kernel_rfl) rfl rfl (fun _ _ => wM_ok _ _ _ _ _ _ _ _) (fun _ _ => Nat.le_refl _) ?_
      (first | refine wXD ?_ | exact wZD)
      refine Nd.mk ⟨hsa, by omega, by omega⟩ ?_
      (first | refine wXD ?_ | exact wZD)
      refine LdN.agg [.int .i64 8, .int .i64 num0, .string (bs text), .slice na names.length nc, .slice ia items.length ic] rfl (fun w hw => hw.2.2.2.1.1) rfl (fun k hk => by rw [Int.toNat_natCast]; exact grC_get l u k hk hp) ?_
      (first | refine wXD ?_ | exact wZD)
      -- the cell was met
      refine ReadW.askKey (et := 3) (p := (u : Int)) (idxR w.cells) rfl (by kernel_rfl) intT rfl rfl rfl rfl (fun w hw => hw.2.1) ho.c ?_
      rw [idxR_look]
      by_cases hm : (u : Int) ∈ w.cells
      · have hi := List.idxOf_lt_length_iff.2 hm
        rw [if_pos hm, show writeC (writeF (l.map (·.c)) n) ⟨8, num0, text, names, items⟩ w (u : Int) = putW w (64 :: num (w.cells.idxOf (u : Int))) from writeC_met (by simp) hm]
        generalize w.cells.idxOf (u : Int) = k at hi ⊢
        (first | refine wXD ?_ | exact wZD)
        refine DrawN.planQ [0, 3] [1, 2, 4, 5] [(6, 0)] (by decide +kernel) ?_
        (first | refine wXD ?_ | exact wZD)
        -- k: the number, 64: the bytes ahead
        have hnl := num_len (n := k) (by omega)
        refine callQ (wide_c (k) (by omega) _) ?_
        (first | refine wXD ?_ | exact wZD)
        refine Nd.mk (by rw [bs_size]; show 1 + _ < _; omega) ?_
        rw [show (⟨#[64]⟩ : ByteArray) = bs [64] from rfl, bs_app]
        (first | refine wXD ?_ | exact wZD)
        -- w.out: what is there, [64] ++ num k: what is written, i: the Builder's place, ho.b: its word, q: the maps
        refine callG (WriteString_m (.slice a l.length ca) (GrF a l) mb sb (q) true (w.out) ([64] ++ num k) i ho.b (by first | omega | (simp; omega))) [0, 1, 2, 3, 4] rfl ⟨rfl, rfl, rfl, rfl, rfl, trivial⟩ rfl fun i2 hi2 => ?_
        (first | refine wXD ?_ | exact wZD)
        -- (i2, q), ⟨hi2, ho.c, ho.s⟩: the index
        exact ⟨(i2, q), ⟨hi2, ho.c, ho.s⟩, rfl, wkE_refl _, wkE_refl _, wkE_refl _, wkE_refl _, wkE_refl _, trivial⟩
      rw [if_neg hm]
      (first | refine wXD ?_ | exact wZD)
      refine DrawN.planQ [0, 4, 5] [1, 2, 3, 6, 7, 8, 9] [(10, 0)] (by decide +kernel) ?_
      (first | refine wXD ?_ | exact wZD)
      refine ReadW.mapLen (kt := 3) (et := 3) w.cells.length rfl rfl rfl (by kernel_rfl) rfl (fun w hw => hw.2.1) (by rw [← Array.length_toList, ho.c.len, idxR_len]) ?_
      (first | refine wXD ?_ | exact wZD)
      refine EffW.setMap (et := 3) (p := (u : Int)) 2 (idxR w.cells) rfl (by kernel_rfl) intT rfl rfl rfl rfl ho.c fun es2 c2 hk2 => ?_
      rw [idxR_put hm] at hk2
      (first | refine wXD ?_ | exact wZD)
      obtain ⟨w1, hw1⟩ : ∃ w1 : Wr, w1 = { w with cells := w.cells ++ [(u : Int)] } := ⟨_, rfl⟩
      have ho1 : WOk w1 (i, ⟨es2, c2, q.se, q.sc⟩) := by rw [hw1]; exact ⟨ho.b, hk2, ho.s⟩
      have ho1o : w1.out = w.out := by rw [hw1]
      have hlt := free_lt hin hm (t := w.cells ++ [(u : Int)]) (fun x hx => by simp [hx]) (by simp)
      have hlen := hcw.len
      have hcls := (hcw.cls rfl).2
      have hns := hcw.lens rfl
      have hnam := hcw.nam
      simp only at hlen hcls hns hnam
      have he : writeC (writeF (l.map (·.c)) n) ⟨8, num0, text, names, items⟩ w (u : Int) = (names.zip items).foldl (pairW (l.map (·.c)) n) (putW (symW (putW w1 [111]) text) (num names.length)) := by
        rw [writeC_new (by simp) hm, if_neg (by simp), if_neg (by simp), if_neg (by simp), hw1]
        rfl
      rw [he]
      have hl2 : Lim ((names.zip items).foldl (pairW (l.map (·.c)) n) (putW (symW (putW w1 [111]) text) (num names.length))) := by rw [← he]; exact hlim
      have hl1 := (gone_fold (gone_pair (l.map (·.c)) n) _ _).lim hl2
      have hl0 := (gone_put _ _).lim hl1
      rw [← ho1o]
      rw [← ho1o] at hlo
      -- w1.out: what is there, [111]: what is written, i: the Builder's place, ho1.b: its word, ⟨es2, c2, q.se, q.sc⟩: the maps
      refine callG (WriteString_m (.slice a l.length ca) (GrF a l) mb sb (⟨es2, c2, q.se, q.sc⟩) true (w1.out) ([111]) i ho1.b (by first | omega | (simp; omega))) [0, 1, 2, 3, 4] rfl ⟨rfl, rfl, rfl, rfl, rfl, trivial⟩ rfl fun i2 hi2 => ?_
      (first | refine wXD ?_ | exact wZD)
      refine callG (symbol_m (.slice a l.length ca) (GrF a l) mb sb (putW w1 [111]) text i2 ⟨es2, c2, q.se, q.sc⟩ ⟨hi2, ho1.c, ho1.s⟩ (by have := ((gone_sym _ _).lim hl0).o; omega) (by omega) (by have := ((gone_sym _ _).lim hl0).s; omega)) [0, 1, 2, 3, 4] rfl ⟨rfl, rfl, rfl, rfl, rfl, trivial⟩ rfl fun x hx => ?_
      obtain ⟨i4, q4⟩ := x
      (first | refine wXD ?_ | exact wZD)
      obtain ⟨w4, hw4⟩ : ∃ w4, w4 = symW (putW w1 [111]) text := ⟨_, rfl⟩
      rw [← hw4] at hx hl2 hl1 hl0 ⊢
      have hl0o := hl0.o
      refine DrawN.planQ [0, 3] [1, 2, 4, 5, 6] [(7, 0)] (by decide +kernel) ?_
      (first | refine wXD ?_ | exact wZD)
      have hnl := num_len (n := names.length) (by omega)
      refine callQ (wide_c names.length (by omega) _) ?_
      (first | refine wXD ?_ | exact wZD)
      -- w4.out: what is there, num names.length: what is written, i4: the Builder's place, hx.b: its word, q4: the maps
      refine callG (WriteString_m (.slice a l.length ca) (GrF a l) mb sb (q4) true (w4.out) (num names.length) i4 hx.b (by first | omega | (simp; omega))) [0, 1, 2, 3, 4] rfl ⟨rfl, rfl, rfl, rfl, rfl, trivial⟩ rfl fun i2 hi2 => ?_
      (first | refine wXD ?_ | exact wZD)
      obtain ⟨w5, hw5⟩ : ∃ w5, w5 = putW w4 (num names.length) := ⟨_, rfl⟩
      have ho5 : WOk w5 (i2, q4) := by rw [hw5]; exact ⟨hi2, hx.c, hx.s⟩
      have hl5 : Lim ((names.zip items).foldl (pairW (l.map (·.c)) n) w5) := by rw [hw5]; exact hl2
      rw [← hw5]
      have hfr : ∀ k, freeN (l.map (·.c)) (((names.zip items).take k).foldl (pairW (l.map (·.c)) n) w5).cells < n := fun k => by
        have h1 := free_mono (g := l.map (·.c)) (gone_fold (gone_pair (l.map (·.c)) n) ((names.zip items).take k) w5).sub
        have h2 : w5.cells = w.cells ++ [(u : Int)] := by rw [hw5, put_cells, hw4, sym_cells, put_cells, hw1]
        rw [h2] at h1
        omega
      have hzl : (names.zip items).length = names.length := by rw [List.length_zip]; omega
      refine LoopN.intro (Nat × BSt × MapP) (fun ⟨k, x⟩ => k ≤ names.length ∧ WOk (((names.zip items).take k).foldl (pairW (l.map (·.c)) n) w5) x)
        (fun ⟨k, _⟩ => mkS Tryz.f35.ntmps 0 [(0, .c (.lp 0 0)), (4, .c (.lp 5 0)), (144, .c (.v (.slice na names.length nc))), (145, .c (.v (.int .i64 (names.length : Int)))), (146, .c (.v (.int .i64 (k : Int))))])
        (fun ⟨k, x⟩ => wM (.slice a l.length ca) (GrF a l) true (((names.zip items).take k).foldl (pairW (l.map (·.c)) n) w5).out x.1 mb sb x.2 ++ [.blk 57 [.v (.int .i64 8), .v (.int .i64 num0), .v (.string (bs text)), .v (.slice na names.length nc), .v (.slice ia items.length ic)]]) (fun ⟨k, _⟩ => names.length - k) [] rfl (fun _ => rfl) (fun _ => rfl) (fun _ _ => okHB_eq rfl) ?_ ?_
      · refine ⟨(0, i2, q4), ⟨Nat.zero_le _, ho5⟩, ?_, ?_⟩
        · (repeat' (first | exact trivial | refine And.intro (by with_reducible rfl) ?_ | (with_reducible exact wkC_refl _) | (with_reducible exact wkCs_refl _) | refine And.intro ?_ ?_))
          all_goals rfl
        · show wkH _ (wM _ _ true w5.out i2 mb sb q4 ++ _)
          rw [hw5, put_out]
          exact ⟨wkE_refl _, wkE_refl _, wkE_refl _, wkE_refl _, wkE_refl _, wkE_refl _, trivial⟩
      rintro ⟨k, x0⟩ ⟨hk, hx0⟩
      obtain ⟨i3, q3⟩ := x0
      (first | refine wXD ?_ | exact wZD)
      refine brd_dec (fun h1 => ?_) (fun h1 => ?_)
      · -- an item: what is known of it
        obtain ⟨x, hx⟩ : ∃ z, items[k]? = some z := ⟨_, List.getElem?_eq_getElem (by omega)⟩
        have hxi := houts x (List.mem_of_getElem? hx)
        obtain ⟨xn, rfl⟩ : ∃ xn : Nat, x = (xn : Int) := ⟨x.toNat, by have := hxi.1; omega⟩
        have hxl : xn < l.length := by have := hxi.2; simp only [List.length_map] at this; omega
        have hxa : ia.isSome = true := by
          cases ia with
          | none => have h0 : items = [] := hpo.ia rfl; rw [h0] at hx; cases hx
          | some b => rfl
        obtain ⟨nm, hnm⟩ : ∃ z, names[k]? = some z := ⟨_, List.getElem?_eq_getElem (by omega)⟩
        have hnma : na.isSome = true := by
          cases na with
          | none => have h0 : names = [] := hpo.na rfl; rw [h0] at hnm; cases hnm
          | some b => rfl
        have hn40 := (hnam nm (List.mem_of_getElem? hnm)).2
        have hz : (names.zip items)[k]? = some (nm, (xn : Int)) := List.getElem?_zip_eq_some.2 ⟨hnm, hx⟩
        have hnx := fold_next (f := pairW (l.map (·.c)) n) (b := w5) hz
        have hl6 := fold_lim (gone_pair (l.map (·.c)) n) hl5 (k + 1)
        have hfk := hfr k
        obtain ⟨wk, hwk⟩ : ∃ w : Wr, w = ((names.zip items).take k).foldl (pairW (l.map (·.c)) n) w5 := ⟨_, rfl⟩
        rw [hnx] at hl6
        rw [← hwk] at hnx hl6 hfk hx0 ⊢
        have hl6b : Lim (writeF (l.map (·.c)) n (symW wk nm) (xn : Int)) := hl6
        have hl7 : Lim (symW wk nm) := (gone_write _ n _ _).lim hl6b
        have hl8 := (gone_sym _ _).lim hl7
        (first | refine wXD ?_ | exact wZD)
        refine Nd.mk ⟨hnma, by omega, by omega⟩ ?_
        (first | refine wXD ?_ | exact wZD)
        refine LdN.one (.string (bs nm)) rfl (fun w hw => (hw.2.2.2.1.2 _ hpm).1) (by rw [Int.toNat_natCast]; show (strC names)[k * 1]? = _; rw [Nat.mul_one]; exact strC_get hnm) ?_
        (first | refine wXD ?_ | exact wZD)
        refine callG (symbol_m (.slice a l.length ca) (GrF a l) mb sb wk nm i3 q3 hx0 (by have := hl8.o; omega) (by omega) (by have := hl8.s; omega)) [0, 1, 2, 3, 4] rfl ⟨rfl, rfl, rfl, rfl, rfl, trivial⟩ rfl fun y hy => ?_
        obtain ⟨i6, q6⟩ := y
        (first | refine wXD ?_ | exact wZD)
        refine Nd.mk ⟨hxa, by omega, by omega⟩ ?_
        (first | refine wXD ?_ | exact wZD)
        refine LdN.one (.int .i64 (xn : Int)) rfl (fun w hw => (hw.2.2.2.1.2 _ hpm).2) (by rw [Int.toNat_natCast]; show (iC items)[k * 1]? = _; rw [Nat.mul_one]; exact iC_get hx) ?_
        (first | refine wXD ?_ | exact wZD)
        refine callG (ih (symW wk nm) i6 q6 xn hxl (by rw [sym_cells]; exact hfk) hy hl6b) [0, 1, 2, 3, 4] rfl ⟨rfl, rfl, rfl, rfl, rfl, trivial⟩ rfl fun z hz2 => ?_
        have hnx2 : writeF (l.map (·.c)) n (symW wk nm) (xn : Int) = ((names.zip items).take (k + 1)).foldl (pairW (l.map (·.c)) n) w5 := hnx.symm
        rw [hnx2] at hz2 ⊢
        (first | refine wXD ?_ | exact wZD)
        refine ⟨(k + 1, z), ⟨by omega, hz2⟩, by show names.length - (k + 1) < names.length - k; omega, ?_, wkE_refl _, wkE_refl _, wkE_refl _, wkE_refl _, wkE_refl _, wkE_refl _, trivial⟩
        (repeat' (first | exact trivial | refine And.intro (by with_reducible rfl) ?_ | (with_reducible exact wkC_refl _) | (with_reducible exact wkCs_refl _) | refine And.intro ?_ ?_))
        all_goals first | rfl | exact av_int (by rw [wrap_i64 (by omega)]; omega)
      · obtain rfl : k = names.length := by omega
        rw [← hzl, List.take_length] at hx0
        rw [show (names.zip items).take names.length = names.zip items by rw [← hzl, List.take_length]]
        (first | refine wXD ?_ | exact wZD)
        -- (i3, q3), hx0: the index
        exact ⟨(i3, q3), hx0, rfl, wkE_refl _, wkE_refl _, wkE_refl _, wkE_refl _, wkE_refl _, trivial⟩
end Go.Proofs.YtgogonnnojcioaaGreatDoor

/-
  Contracts: Dump and Size (marshal).
-/
namespace Go.Marshal
open Go.Core
theorem dmp_of {g : List Cell} (hv : ValidP g) (hs : ∀ c ∈ g, c.items.length ≤ 2000 ∧ c.names.length ≤ 2000) {k : Int} (hk : InI g k) : Dmp g 2030 k :=
  ⟨hv, fun c hc => ⟨(hs c hc).1, (hs c hc).2, by have := cellD_text (hv.2.1 c hc); omega⟩, hk⟩
theorem Dmp.lim {g : List Cell} {k : Int} (h : Dmp g 2030 k) : Lim (doneW g k) := by
  have h500 := h.valid.1
  have hin := valid_in h.valid
  have h1 := write_ss hin h.cellW (g.length + 1) ⟨headB, [], []⟩ k h.at_
  have h2 := h.wle
  have h3 := cells_few h500 h.kn.nodup h.kn.inI
  have h4 := write_len hin h.cellW (by decide) (g.length + 1) ⟨headB, [], []⟩ k h.at_ h.few
  have h5 : wgt iN g [] ≤ g.length * 4000 := wgt_le (fun i hi => by
    have := h.small _ (at_mem hi)
    unfold iN
    omega) []
  have e1 : (⟨headB, [], []⟩ : Wr).ss.length = 0 := rfl
  have e2 : (⟨headB, [], []⟩ : Wr).cells = [] := rfl
  have e3 : (⟨headB, [], []⟩ : Wr).out.length = 3 := rfl
  rw [e1, e2] at h1
  rw [e2, e3] at h4
  refine ⟨?_, ?_, ?_⟩
  · unfold doneW; omega
  · unfold doneW; omega
  · omega
end Go.Marshal
namespace Go.Proofs.YtgogonnnojcioaaGreatDoor
open Go.AX Go.RowKit Go.Core Go.Marshal
set_option maxRecDepth 20000

theorem small_c {l : List CellP} (hs : Small l) : ∀ c ∈ l.map (·.c), c.items.length ≤ 2000 ∧ c.names.length ≤ 2000 := fun c hc => by
  obtain ⟨p, hp, rfl⟩ := List.mem_map.1 hc
  exact ⟨(hs.2 p hp).2, (hs.2 p hp).1⟩
set_option maxHeartbeats 4000000 in
theorem Dump_c {a : Option Addr} (ca : Nat) {l : List CellP} (ha : a = none → l = []) (hs : Small l) (hok : ∀ p ∈ l, CellOk p) (u : Int) :
    ∃ e : Bool, (e = true ↔ AskP (l.map (·.c)) [u]) ∧ ∀ H, (∀ w, Facts H w → GrF a l w) → SpecH Tryz.prog 14 (pvs [.slice a l.length ca, .int .i64 u]) H (Ret (.tuple #[.string (bs (if e then dumpS (l.map (·.c)) u else [])), errI e]) H) := by
  obtain ⟨e, he, hr⟩ := Reach_c ca ha hs hok u
  refine ⟨e, he, ?_⟩
  refine factC hm Tryz.func14 (by kernel_rfl) rfl rfl ?_
  (first | refine wXD ?_ | exact wZD)
  refine SpecF.call hr (fun w hw => hw.1) fun v G hv => ?_
  obtain ⟨oa, oc, rfl, hoa, hG⟩ := hv
  cases e with
  | false =>
    (first | refine wXD ?_ | exact wZD)
    rfl
  | true =>
    have hask := he.1 rfl
    have hin := valid_in hask.1
    have hu := hask.2 u (by simp)
    have hd := dmp_of hask.1 (small_c hs) hu
    obtain ⟨v, rfl⟩ : ∃ v : Nat, u = (v : Int) := ⟨u.toNat, by omega⟩
    have hgl : (l.map (·.c)).length = l.length := by simp
    (first | refine wXD ?_ | exact wZD)
    refine EffW.mkMap rfl fun mb => ?_
    (first | refine wXD ?_ | exact wZD)
    refine EffW.mkMap rfl fun sb => ?_
    (first | refine wXD ?_ | exact wZD)
    refine SpecH.pad [.app 5 1 [] none 0 0] rfl ?_
    have hok0 : BSt.ok (0 : Nat) ⟨none, 0⟩ := ⟨fun _ => ⟨rfl, rfl⟩, Nat.le_refl _, fun _ => rfl⟩
    refine callG (WriteString_m (.slice a l.length ca) (GrF a l) mb sb ⟨#[], 0, #[], 0⟩ false [] headB ⟨none, 0⟩ hok0 (by decide)) [4, 5, 2, 3, 0] rfl ⟨rfl, rfl, rfl, rfl, rfl, trivial⟩ rfl fun i2 hi2 => ?_
    (first | refine wXD ?_ | exact wZD)
    have hlim := hd.lim
    have hdl : doneW (l.map (·.c)) (v : Int) = writeF (l.map (·.c)) (l.length + 1) ⟨headB, [], []⟩ (v : Int) := by unfold doneW; rw [hgl]
    have hds : dumpS (l.map (·.c)) (v : Int) = (writeF (l.map (·.c)) (l.length + 1) ⟨headB, [], []⟩ (v : Int)).out := by rw [← hdl]; rfl
    rw [hdl] at hlim
    refine callG (cell_m ca ha hok hin hd.cellW hs.1 mb sb (l.length + 1) ⟨headB, [], []⟩ i2 ⟨#[], 0, #[], 0⟩ v (by omega) (by have := free_le (l.map (·.c)) []; show freeN _ [] < _; omega) ⟨hi2, rfl, rfl⟩ hlim) [4, 5, 2, 3, 0] rfl ⟨rfl, rfl, rfl, rfl, rfl, trivial⟩ rfl fun x hx => ?_
    rw [hds]
    generalize writeF (l.map (·.c)) (l.length + 1) ⟨headB, [], []⟩ (v : Int) = W at hx hlim ⊢
    (first | refine wXD ?_ | exact wZD)
    refine callG (String_m (.slice a l.length ca) (GrF a l) mb sb x.2 true W.out x.1 hx.b) [4, 5, 2, 3, 0] rfl ⟨rfl, rfl, rfl, rfl, rfl, trivial⟩ rfl fun _ _ => ?_
    (first | refine wXD ?_ | exact wZD)
    rfl
theorem Size_c {a : Option Addr} (ca : Nat) {l : List CellP} (ha : a = none → l = []) (hs : Small l) (hok : ∀ p ∈ l, CellOk p) (u : Int) :
    ∃ e : Bool, (e = true ↔ AskP (l.map (·.c)) [u]) ∧ ∀ H, (∀ w, Facts H w → GrF a l w) → SpecH Tryz.prog 23 (pvs [.slice a l.length ca, .int .i64 u]) H (Ret (.tuple #[.int .i64 ((if e then dumpS (l.map (·.c)) u else []).length : Int), errI e]) H) := by
  obtain ⟨e, he, hr⟩ := Dump_c ca ha hs hok u
  refine ⟨e, he, ?_⟩
  refine factC hm Tryz.func23 (by kernel_rfl) rfl rfl ?_
  (first | refine wXD ?_ | exact wZD)
  refine call1 (hr _ (fun w hw => hw.1)) ?_
  (first | refine wXD ?_ | exact wZD)
  rw [bs_size]
  rfl
end Go.Proofs.YtgogonnnojcioaaGreatDoor

/-
  Contracts: numbers and texts of the marshal bytes (document).
-/
namespace Go.Proofs.YtgogonnnojcioaaGreatDoor
open Go.AX Go.RowKit Go.Core Go.Marshal
set_option maxRecDepth 20000

theorem number_r (n : Nat) (hn : n < 9223372036854775808) : ∀ H, SpecH Tryz.prog 73 (pvs [.int .i64 (n : Int)]) H (Ret (.string (bs (num n))) H) := by
  refine pureC hm Tryz.func73 (by kernel_rfl) rfl rfl ?_
  have e1 : (n : Int).tmod 128 = ((n % 128 : Nat) : Int) := (Int.ofNat_tmod n 128).symm
  (first | refine wX ?_ | exact wZ)
  -- a string of one byte; IntKind.u8.wrap ((n : Int).tmod 128): the number in it, by rw [e1, wrap_u8 (by omega), ofNat_int (by omega)]: the word that it is the byte's, (UInt8.ofNat (n % 128)): the byte
  rw [show IntKind.u8.wrap ((n : Int).tmod 128) = (((UInt8.ofNat (n % 128))).toNat : Int) from by rw [e1, wrap_u8 (by omega), ofNat_int (by omega)]]
  refine ReadW.bytesOwn [(UInt8.ofNat (n % 128))] rfl rfl Tryz.underlying29 Tryz.underlying5 Tryz.underlying9 rfl rfl ?_
  (first | refine wX ?_ | exact wZ)
  refine loopS (Nat × List UInt8 × Nat) (fun ⟨m, s, f⟩ => (numR f (m / 128)).reverse ++ s = num n ∧ m / 128 < 128 ^ f ∧ s.length + f ≤ 11 ∧ m < 9223372036854775808)
    (fun ⟨m, s, _⟩ => mkS Tryz.f73.ntmps 0 [(0, .c (.v (.int .i64 (m : Int)))), (3, .c (.v (.string (bs s))))]) (fun ⟨_, _, f⟩ => f) rfl (fun _ => rfl) (n, [UInt8.ofNat (n % 128)], 10) ⟨?_, ?_, ?_, hn⟩ ?_ ?_
  · simp [num]
  · have : n / 128 < 128 ^ 9 := by omega
    omega
  · simp
  · (repeat' (first | exact trivial | refine And.intro (by with_reducible rfl) ?_ | (with_reducible exact wkC_refl _) | (with_reducible exact wkCs_refl _) | refine And.intro ?_ ?_))
    all_goals rfl
  rintro ⟨m, s, f⟩ ⟨hl, hm1, hsf, hm2⟩
  (first | refine wX ?_ | exact wZ)
  refine brd_dec (fun h => ?_) (fun h => ?_)
  · cases f with
    | zero => omega
    | succ f =>
      have e3 : (m : Int).tdiv 128 = ((m / 128 : Nat) : Int) := (Int.ofNat_tdiv m 128).symm
      have e4 : ((m / 128 : Nat) : Int).tmod 128 = ((m / 128 % 128 : Nat) : Int) := (Int.ofNat_tmod _ 128).symm
      have hs : numR (f + 1) (m / 128) = UInt8.ofNat (m / 128 % 128 + 128) :: numR f (m / 128 / 128) := by
        conv => lhs; unfold numR
        rw [if_neg (by omega)]
      rw [hs] at hl
      (first | refine wX ?_ | exact wZ)
      -- a string of one byte; IntKind.u8.wrap (IntKind.i64.wrap (128 + ((m : Int).tdiv 128).tmod 128)): the number in it, by rw [e3, e4, wrap_i64 (by omega), wrap_u8 (by omega), ofNat_int (by omega)]; omega: the word that it is the byte's, (UInt8.ofNat (m / 128 % 128 + 128)): the byte
      rw [show IntKind.u8.wrap (IntKind.i64.wrap (128 + ((m : Int).tdiv 128).tmod 128)) = (((UInt8.ofNat (m / 128 % 128 + 128))).toNat : Int) from by rw [e3, e4, wrap_i64 (by omega), wrap_u8 (by omega), ofNat_int (by omega)]; omega]
      refine ReadW.bytesOwn [(UInt8.ofNat (m / 128 % 128 + 128))] rfl rfl Tryz.underlying29 Tryz.underlying5 Tryz.underlying9 rfl rfl ?_
      (first | refine wX ?_ | exact wZ)
      refine Nd.mk (by rw [bs_size, bs_size]; simp; omega) ?_
      rw [bs_app]
      (first | refine wX ?_ | exact wZ)
      refine ⟨(m / 128, UInt8.ofNat (m / 128 % 128 + 128) :: s, f), ⟨by rw [← hl]; simp, by rw [Nat.pow_succ, Nat.mul_comm] at hm1; exact Nat.div_lt_of_lt_mul hm1, by simp; omega, by omega⟩, by show f < f + 1; omega, ?_, by (repeat' (first | exact trivial | exact wkE_refl _ | refine And.intro ?_ ?_))⟩
      (repeat' (first | exact trivial | refine And.intro (by with_reducible rfl) ?_ | (with_reducible exact wkC_refl _) | (with_reducible exact wkCs_refl _) | refine And.intro ?_ ?_))
      all_goals first | rfl | exact av_int e3
  · have h0 : m / 128 = 0 := by omega
    have hz : numR f (m / 128) = [] := by
      rw [h0]
      cases f with
      | zero => rfl
      | succ f => unfold numR; rw [if_pos rfl]
    rw [hz] at hl
    have hl2 : s = num n := hl
    rw [← hl2]
    (first | refine wX ?_ | exact wZ)
theorem signed_r (n : Int) (hn : -(maxN : Int) ≤ n ∧ n ≤ (maxN : Int)) : ∀ H, SpecH Tryz.prog 70 (pvs [.int .i64 n]) H (Ret (.string (bs (num (Marshal.sgn n)))) H) := by
  have hmx : maxN = 1000000000000000 := rfl
  have hsl : Marshal.sgn n ≤ 2000000000000000 := by unfold Marshal.sgn; split <;> omega
  refine pureC hm Tryz.func70 (by kernel_rfl) rfl rfl ?_
  (first | refine wX ?_ | exact wZ)
  refine brd_dec (fun h => ?_) (fun h => ?_)
  · have hs : ((Marshal.sgn n : Nat) : Int) = -2 * n - 1 := by unfold Marshal.sgn; rw [if_pos h]; omega
    (first | refine wX ?_ | exact wZ)
    rw [show IntKind.i64.wrap (IntKind.i64.wrap (-2 * n) - 1) = ((Marshal.sgn n : Nat) : Int) by rw [hs, wrap_i64 (x := -2 * n) (by omega), wrap_i64 (by omega)]]
    refine call1 (number_r (Marshal.sgn n) (by omega) _) ?_
    (first | refine wX ?_ | exact wZ)
  · have hs : ((Marshal.sgn n : Nat) : Int) = 2 * n := by unfold Marshal.sgn; rw [if_neg h]; omega
    (first | refine wX ?_ | exact wZ)
    rw [show IntKind.i64.wrap (2 * n) = ((Marshal.sgn n : Nat) : Int) by rw [hs, wrap_i64 (by omega)]]
    refine call1 (number_r (Marshal.sgn n) (by omega) _) ?_
    (first | refine wX ?_ | exact wZ)
theorem text_r (t : List UInt8) (ht : t.length ≤ 100000000000) : ∀ H, SpecH Tryz.prog 74 (pvs [.string (bs t)]) H (Ret (.string (bs (num t.length ++ t))) H) := by
  refine pureC hm Tryz.func74 (by kernel_rfl) rfl rfl ?_
  have hnl := num_len (n := t.length) (by omega)
  (first | refine wX ?_ | exact wZ)
  rw [bs_size]
  refine call1 (number_r t.length (by omega) _) ?_
  (first | refine wX ?_ | exact wZ)
  refine Nd.mk (by rw [bs_size, bs_size]; omega) ?_
  rw [bs_app]
  (first | refine wX ?_ | exact wZ)
theorem place_r (a : Option Addr) (c : Nat) (l : List Int) (x : Int) (ha : a = none → l = []) (hl : l.length ≤ 200000000000000) : ∀ H, (∀ w, Facts H w → SlAt a (l.length * 1) (iC l) w) → SpecH Tryz.prog 72 (pvs [.slice a l.length c, .int .i64 x]) H (Ret (.int .i64 (if x ∈ l then ((l.idxOf x : Nat) : Int) else -1)) H) := by
  refine factC hm Tryz.func72 (by kernel_rfl) rfl rfl ?_
  (first | refine wX ?_ | exact wZ)
  refine loopS Nat (fun i => i ≤ l.length ∧ x ∉ l.take i) (fun i => mkS Tryz.f72.ntmps 0 [(0, .c (.v (.slice a l.length c))), (1, .c (.v (.int .i64 x))), (5, .c (.v (.int .i64 (i : Int))))]) (fun i => l.length - i) rfl (fun _ => rfl) 0 ⟨Nat.zero_le _, by simp⟩ ?_ ?_
  · (repeat' (first | exact trivial | refine And.intro (by with_reducible rfl) ?_ | (with_reducible exact wkC_refl _) | (with_reducible exact wkCs_refl _) | refine And.intro ?_ ?_))
    all_goals rfl
  intro i ⟨hi, hno⟩
  (first | refine wX ?_ | exact wZ)
  refine brd_dec (fun h1 => ?_) (fun h1 => ?_)
  · obtain ⟨y, hy⟩ : ∃ y, l[i]? = some y := ⟨_, List.getElem?_eq_getElem (by omega)⟩
    have hsa : a.isSome = true := by
      cases a with
      | none => rw [ha rfl] at hy; cases hy
      | some b => rfl
    (first | refine wX ?_ | exact wZ)
    refine Nd.mk ⟨hsa, by omega, by omega⟩ ?_
    (first | refine wX ?_ | exact wZ)
    refine LdN.one (.int .i64 y) rfl (fun w hw => hw.1) (by rw [Int.toNat_natCast]; show (iC l)[i * 1]? = _; rw [Nat.mul_one]; exact iC_get hy) ?_
    (first | refine wX ?_ | exact wZ)
    refine brd_eq (fun h2 => ?_) (fun h2 => ?_)
    · subst h2
      have hm : y ∈ l := List.mem_of_getElem? hy
      have e : l.idxOf y = i := by
        have h3 : l = l.take i ++ y :: l.drop (i + 1) := by
          rw [← (List.getElem?_eq_some_iff.1 hy).2, List.getElem_cons_drop, List.take_append_drop]
        conv => lhs; rw [h3]
        rw [List.idxOf_append, if_neg hno, List.idxOf_cons_self, List.length_take]
        omega
      rw [if_pos hm, e]
      (first | refine wX ?_ | exact wZ)
    · (first | refine wX ?_ | exact wZ)
      refine ⟨i + 1, ⟨by omega, ?_⟩, by omega, ?_, by (repeat' (first | exact trivial | exact wkE_refl _ | refine And.intro ?_ ?_))⟩
      · rw [List.take_add_one, hy]
        simp only [Option.toList_some, List.mem_append, List.mem_singleton, not_or]
        exact ⟨hno, fun e => h2 e.symm⟩
      · (repeat' (first | exact trivial | refine And.intro (by with_reducible rfl) ?_ | (with_reducible exact wkC_refl _) | (with_reducible exact wkCs_refl _) | refine And.intro ?_ ?_))
        all_goals first | rfl | exact av_int (by rw [wrap_i64 (by omega)]; omega)
  · obtain rfl : i = l.length := by omega
    rw [List.take_length] at hno
    rw [if_neg hno]
    (first | refine wX ?_ | exact wZ)
end Go.Proofs.YtgogonnnojcioaaGreatDoor

/-
  Contracts: the document's writer: symbols (marshal).
-/
namespace Go.Marshal
open Go.Core
/-- Bytes ahead of what is written. -/
def shiftW (o : B) (w : Wr) : Wr := ⟨o ++ w.out, w.cells, w.ss⟩
theorem put_shift (o b : B) (w : Wr) : putW (shiftW o w) b = shiftW o (putW w b) := by unfold putW shiftW; simp
theorem sym_shift (o t : B) (w : Wr) : symW (shiftW o w) t = shiftW o (symW w t) := by
  unfold symW
  have e : (shiftW o w).ss = w.ss := rfl
  rw [e]
  split
  · exact put_shift o _ w
  · unfold shiftW; simp
theorem fold_shift {α : Type} {f : Wr → α → Wr} (o : B) (hf : ∀ w x, f (shiftW o w) x = shiftW o (f w x)) : ∀ (l : List α) (w : Wr), l.foldl f (shiftW o w) = shiftW o (l.foldl f w)
  | [], _ => rfl
  | x :: l, w => by rw [List.foldl_cons, List.foldl_cons, hf, fold_shift o hf l]
theorem shift_ite {c : Prop} [Decidable c] (o : B) (a b : Wr) : shiftW o (if c then a else b) = if c then shiftW o a else shiftW o b := by split <;> rfl
theorem write_shift (g : List Cell) (o : B) : ∀ (n : Nat) (w : Wr) (a : Int), writeF g n (shiftW o w) a = shiftW o (writeF g n w a)
  | 0, _, _ => rfl
  | n + 1, w, a => by
    rw [writeF_eq, writeF_eq]
    unfold writeC
    have e1 : (shiftW o w).cells = w.cells := rfl
    have e2 : ({ shiftW o w with cells := w.cells ++ [a] } : Wr) = shiftW o { w with cells := w.cells ++ [a] } := rfl
    rw [e1, e2]
    simp only [put_shift, sym_shift]
    rw [fold_shift o (write_shift g o n), fold_shift o (write_shift g o n), fold_shift o (f := fun w (p : B × Int) => writeF g n (symW w p.1) p.2) (fun w p => by rw [sym_shift, write_shift g o n])]
    repeat rw [shift_ite]
theorem write_at (g : List Cell) (n : Nat) (w : Wr) (a : Int) : writeF g n w a = shiftW w.out (writeF g n ⟨[], w.cells, w.ss⟩ a) := by
  rw [← write_shift]
  congr 1
  unfold shiftW
  simp
theorem sym_at (w : Wr) (t : B) : symW w t = shiftW w.out (symW ⟨[], w.cells, w.ss⟩ t) := by
  rw [← sym_shift]
  congr 1
  unfold shiftW
  simp
end Go.Marshal
namespace Go.Proofs.YtgogonnnojcioaaGreatDoor
open Go.AX Go.RowKit Go.Core Go.Marshal
set_option maxRecDepth 20000

def wD (gv : Value) (F : World → Prop) (cs : List Int) (ss : List (List UInt8)) (i j : BSt) : List Ent :=
  [.blk 93 [.v gv, .v (.slice (at0 i.ob) cs.length i.cap), .v (.slice (at0 j.ob) ss.length j.cap)], .app 3 1 (iC cs) (at0 i.ob) cs.length i.cap, .app 9 1 (strC ss) (at0 j.ob) ss.length j.cap, .fact F]
theorem wD_ok (gv : Value) (F : World → Prop) (cs : List Int) (ss : List (List UInt8)) (i j : BSt) : okH (wD gv F cs ss i j).length (wD gv F cs ss i j) := okHB_eq rfl
variable (gv : Value) (F : World → Prop)
/-- What the document's writer gives and leaves. -/
def dOut (W : Wr) : Out → List Ent → Prop := RetG (ι := BSt × BSt) (fun x => x.1.ok W.cells.length ∧ x.2.ok W.ss.length) (fun _ => .string (bs W.out)) fun x => wD gv F W.cells W.ss x.1 x.2
theorem bst_some {n b c : Nat} (hn : 0 < n) (h : n ≤ c) : BSt.ok n ⟨some b, c⟩ := ⟨fun h => (by cases h), h, fun h2 => by have h3 : c = 0 := h2; omega⟩
theorem symbol_r (cs : List Int) (ss : List (List UInt8)) (t : List UInt8) (i j : BSt) (hi : i.ok cs.length) (hj : j.ok ss.length) (ht : t.length ≤ 100000) (hl : ss.length ≤ 90000000000) :
    SpecH Tryz.prog 71 [.c (.lp 0 0), .c (.v (.string (bs t)))] (wD gv F cs ss i j) (dOut gv F (symW ⟨[], cs, ss⟩ t)) := by
  refine ownC hm Tryz.func71 (by kernel_rfl) rfl rfl (fun _ _ => wD_ok _ _ _ _ _ _) (fun _ _ => Nat.le_refl _) ?_
  (first | refine wX ?_ | exact wZ)
  refine LoopN.intro Nat (fun k => k ≤ ss.length ∧ t ∉ ss.take k) (fun k => mkS Tryz.f71.ntmps 0 [(0, .c (.lp 0 0)), (1, .c (.v (.string (bs t)))), (5, .c (.v (.int .i64 (k : Int))))])
    (fun _ => wD gv F cs ss i j) (fun k => ss.length - k) [] rfl (fun _ => rfl) (fun _ => rfl) (fun _ _ => okHB_eq rfl) ?_ ?_
  · refine ⟨0, ⟨Nat.zero_le _, by simp⟩, ?_, wkH_refl _⟩
    (repeat' (first | exact trivial | refine And.intro (by with_reducible rfl) ?_ | (with_reducible exact wkC_refl _) | (with_reducible exact wkCs_refl _) | refine And.intro ?_ ?_))
    all_goals rfl
  rintro k ⟨hk, hno⟩
  (first | refine wX ?_ | exact wZ)
  refine brd_dec (fun h1 => ?_) (fun h1 => ?_)
  · obtain ⟨y, hy⟩ : ∃ y, ss[k]? = some y := ⟨_, List.getElem?_eq_getElem (by omega)⟩
    have hsa : (at0 j.ob).isSome = true := by
      cases hob : j.ob with
      | none => have := (hj.1 hob).1; omega
      | some b => rfl
    (first | refine wX ?_ | exact wZ)
    refine Nd.mk ⟨hsa, by omega, by omega⟩ ?_
    (first | refine wX ?_ | exact wZ)
    refine LdN.one (.string (bs y)) rfl (fun w hw => hw.2.1) (by rw [Int.toNat_natCast]; show (strC ss)[k * 1]? = _; rw [Nat.mul_one]; exact strC_get hy) ?_
    (first | refine wX ?_ | exact wZ)
    rw [bs_list, bs_list]
    by_cases h2 : y = t
    · subst h2
      have hm : y ∈ ss := List.mem_of_getElem? hy
      have e : ss.idxOf y = k := by
        have h3 : ss = ss.take k ++ y :: ss.drop (k + 1) := by
          rw [← (List.getElem?_eq_some_iff.1 hy).2, List.getElem_cons_drop, List.take_append_drop]
        conv => lhs; rw [h3]
        rw [List.idxOf_append, if_neg hno, List.idxOf_cons_self, List.length_take]
        omega
      have hsy : symW ⟨[], cs, ss⟩ y = ⟨59 :: num k, cs, ss⟩ := by unfold symW; rw [if_pos hm, e]; rfl
      rw [hsy, beq_self_eq_true]
      have hnl := num_len (n := k) (by omega)
      (first | refine wX ?_ | exact wZ)
      refine call1 (number_r k (by omega) _) ?_
      (first | refine wX ?_ | exact wZ)
      refine Nd.mk (by rw [bs_size]; show 1 + _ < _; omega) ?_
      rw [show (⟨#[59]⟩ : ByteArray) = bs [59] from rfl, bs_app]
      (first | refine wX ?_ | exact wZ)
      exact ⟨(i, j), ⟨hi, hj⟩, rfl, wkE_refl _, wkE_refl _, wkE_refl _, wkE_refl _, trivial⟩
    · rw [show (y == t) = false by simpa using h2]
      (first | refine wX ?_ | exact wZ)
      refine ⟨k + 1, ⟨by omega, ?_⟩, by omega, ?_, wkH_refl _⟩
      · rw [List.take_add_one, hy]
        simp only [Option.toList_some, List.mem_append, List.mem_singleton, not_or]
        exact ⟨hno, fun e => h2 e.symm⟩
      · (repeat' (first | exact trivial | refine And.intro (by with_reducible rfl) ?_ | (with_reducible exact wkC_refl _) | (with_reducible exact wkCs_refl _) | refine And.intro ?_ ?_))
        all_goals first | rfl | exact av_int (by rw [wrap_i64 (by omega)]; omega)
  · obtain rfl : k = ss.length := by omega
    rw [List.take_length] at hno
    have hsy : symW ⟨[], cs, ss⟩ t = ⟨58 :: (num t.length ++ t), cs, ss ++ [t]⟩ := by unfold symW; rw [if_neg hno]; rfl
    rw [hsy]
    (first | refine wX ?_ | exact wZ)
    refine Nd.mk ⟨Nat.le_refl 1, rfl, rfl⟩ ?_
    (conv => whnf)
    refine AppN.grow 2 (strC ss) [.string (bs t)] rfl rfl ⟨Nat.le_refl 1, ⟨by show (ss.length + 1) * 16 ≤ _; omega, by omega⟩, Nat.one_ne_zero⟩ fun b' cap' h2 h3 => ?_
    (first | refine wX ?_ | exact wZ)
    refine call1 (text_r t (by omega) _) ?_
    (first | refine wX ?_ | exact wZ)
    have hnl := num_len (n := t.length) (by omega)
    refine Nd.mk (by rw [bs_size]; show 1 + _ < _; simp; omega) ?_
    rw [show (⟨#[58]⟩ : ByteArray) = bs [58] from rfl, bs_app]
    (first | refine wX ?_ | exact wZ)
    have e1 : strC ss ++ [.string (bs t)] = strC (ss ++ [t]) := by simp [strC]
    have e2 : ss.length + 1 = (ss ++ [t]).length := by simp
    rw [e1, e2]
    exact ⟨(i, ⟨some b', cap'⟩), ⟨hi, bst_some (by rw [← e2]; omega) (by rw [← e2]; exact h2)⟩, rfl, wkE_refl _, wkE_refl _, wkE_refl _, wkE_refl _, trivial⟩
end Go.Proofs.YtgogonnnojcioaaGreatDoor

/-
  Contract: the document's writer writes a cell (marshal).
-/
namespace Go.Proofs.YtgogonnnojcioaaGreatDoor
open Go.AX Go.RowKit Go.Core Go.Marshal
set_option maxRecDepth 20000

set_option maxHeartbeats 4000000 in
theorem form_r {a : Option Addr} (ca : Nat) {l : List CellP} (ha : a = none → l = []) (hok : ∀ p ∈ l, CellOk p) (hg : InG (l.map (·.c))) {K : Nat} (hc : ∀ i, InI (l.map (·.c)) i → CellW K (at_ (l.map (·.c)) i)) (hl2 : l.length ≤ 2000) :
    ∀ (n : Nat) (cs : List Int) (ss : List (List UInt8)) (i j : BSt) (u : Nat), u < l.length → freeN (l.map (·.c)) cs < n → i.ok cs.length → j.ok ss.length → Lim (writeF (l.map (·.c)) n ⟨[], cs, ss⟩ (u : Int)) →
    SpecH Tryz.prog 47 [.c (.lp 0 0), .c (.v (.int .i64 (u : Int)))] (wD (.slice a l.length ca) (GrF a l) cs ss i j) (dOut (.slice a l.length ca) (GrF a l) (writeF (l.map (·.c)) n ⟨[], cs, ss⟩ (u : Int))) := by
  intro n
  induction n with
  | zero => intro cs ss i j u _ h; omega
  | succ n ih =>
    intro cs ss i j u hu hn hi hj hlim
    obtain ⟨p, hp⟩ : ∃ p, l[u]? = some p := ⟨_, List.getElem?_eq_getElem hu⟩
    have hpm := List.mem_of_getElem? hp
    have hpo := hok p hpm
    have hin : InI (l.map (·.c)) (u : Int) := ⟨by omega, by simp; omega⟩
    have hcw := hc (u : Int) hin
    have hat : at_ (l.map (·.c)) (u : Int) = p.c := at_map hp
    rw [hat] at hcw
    have hlw := (gone_write (l.map (·.c)) (n + 1) ⟨[], cs, ss⟩ (u : Int)).lim hlim
    have hls := hlw.s
    have hlc := hlw.c
    simp only at hls hlc
    have hsa : a.isSome = true := by
      cases a with
      | none => rw [ha rfl] at hu; exact absurd hu (Nat.not_lt_zero _)
      | some b => rfl
    have houts : ∀ x ∈ p.c.items, InI (l.map (·.c)) x := fun x hx => outs_in hg hin (by unfold outs; rw [hat]; exact hx)
    have hkk := hcw.kind
    have htx := hcw.text
    obtain ⟨⟨kind, num0, text, names, items⟩, na, nc, ia, ic⟩ := p
    simp only at hkk htx hat hcw hpo houts
    rw [writeF_eq, hat] at hlim
    obtain rfl | rfl | rfl | rfl | rfl | rfl | rfl | rfl | rfl : kind = 0 ∨ kind = 1 ∨ kind = 2 ∨ kind = 3 ∨ kind = 4 ∨ kind = 5 ∨ kind = 6 ∨ kind = 7 ∨ kind = 8 := by omega
    · -- 0: the kind
      rw [writeF_eq, hat]
      refine ownC hm Tryz.func47 (by kernel_rfl) rfl rfl (fun _ _ => wD_ok _ _ _ _ _ _) (fun _ _ => Nat.le_refl _) ?_
      (first | refine wX ?_ | exact wZ)
      refine Nd.mk ⟨hsa, by omega, by omega⟩ ?_
      (first | refine wX ?_ | exact wZ)
      refine LdN.agg [.int .i64 0, .int .i64 num0, .string (bs text), .slice na names.length nc, .slice ia items.length ic] rfl (fun w hw => hw.2.2.1.1) rfl (fun k hk => by rw [Int.toNat_natCast]; exact grC_get l u k hk hp) ?_
      (first | refine wX ?_ | exact wZ)
      -- (i, j), ⟨hi, hj⟩: the index
      exact ⟨(i, j), ⟨hi, hj⟩, rfl, wkE_refl _, wkE_refl _, wkE_refl _, wkE_refl _, trivial⟩
    · -- 1: the kind
      rw [writeF_eq, hat]
      refine ownC hm Tryz.func47 (by kernel_rfl) rfl rfl (fun _ _ => wD_ok _ _ _ _ _ _) (fun _ _ => Nat.le_refl _) ?_
      (first | refine wX ?_ | exact wZ)
      refine Nd.mk ⟨hsa, by omega, by omega⟩ ?_
      (first | refine wX ?_ | exact wZ)
      refine LdN.agg [.int .i64 1, .int .i64 num0, .string (bs text), .slice na names.length nc, .slice ia items.length ic] rfl (fun w hw => hw.2.2.1.1) rfl (fun k hk => by rw [Int.toNat_natCast]; exact grC_get l u k hk hp) ?_
      (first | refine wX ?_ | exact wZ)
      -- (i, j), ⟨hi, hj⟩: the index
      exact ⟨(i, j), ⟨hi, hj⟩, rfl, wkE_refl _, wkE_refl _, wkE_refl _, wkE_refl _, trivial⟩
    · -- 2: the kind
      rw [writeF_eq, hat]
      refine ownC hm Tryz.func47 (by kernel_rfl) rfl rfl (fun _ _ => wD_ok _ _ _ _ _ _) (fun _ _ => Nat.le_refl _) ?_
      (first | refine wX ?_ | exact wZ)
      refine Nd.mk ⟨hsa, by omega, by omega⟩ ?_
      (first | refine wX ?_ | exact wZ)
      refine LdN.agg [.int .i64 2, .int .i64 num0, .string (bs text), .slice na names.length nc, .slice ia items.length ic] rfl (fun w hw => hw.2.2.1.1) rfl (fun k hk => by rw [Int.toNat_natCast]; exact grC_get l u k hk hp) ?_
      (first | refine wX ?_ | exact wZ)
      -- (i, j), ⟨hi, hj⟩: the index
      exact ⟨(i, j), ⟨hi, hj⟩, rfl, wkE_refl _, wkE_refl _, wkE_refl _, wkE_refl _, trivial⟩
    · have hmx : maxN = 1000000000000000 := rfl
      have hnb := hcw.num rfl
      simp only at hnb
      have hsl : Marshal.sgn num0 ≤ 2000000000000000 := by unfold Marshal.sgn; split <;> omega
      have hnl := num_len (n := Marshal.sgn num0) (by omega)
      -- 3: the kind
      rw [writeF_eq, hat]
      refine ownC hm Tryz.func47 (by kernel_rfl) rfl rfl (fun _ _ => wD_ok _ _ _ _ _ _) (fun _ _ => Nat.le_refl _) ?_
      (first | refine wX ?_ | exact wZ)
      refine Nd.mk ⟨hsa, by omega, by omega⟩ ?_
      (first | refine wX ?_ | exact wZ)
      refine LdN.agg [.int .i64 3, .int .i64 num0, .string (bs text), .slice na names.length nc, .slice ia items.length ic] rfl (fun w hw => hw.2.2.1.1) rfl (fun k hk => by rw [Int.toNat_natCast]; exact grC_get l u k hk hp) ?_
      (first | refine wX ?_ | exact wZ)
      refine call1 (signed_r num0 hnb _) ?_
      (first | refine wX ?_ | exact wZ)
      -- a byte ahead of what is there; 105: the byte, x: what is there
      refine Nd.mk (by rw [bs_size]; show 1 + _ < _; first | omega | (simp only [List.length_append]; omega)) ?_
      rw [show (⟨#[105]⟩ : ByteArray) = bs [105] from rfl, bs_app]
      (first | refine wX ?_ | exact wZ)
      -- (i, j), ⟨hi, hj⟩: the index
      exact ⟨(i, j), ⟨hi, hj⟩, rfl, wkE_refl _, wkE_refl _, wkE_refl _, wkE_refl _, trivial⟩
    · -- 4: the kind
      rw [writeF_eq, hat]
      refine ownC hm Tryz.func47 (by kernel_rfl) rfl rfl (fun _ _ => wD_ok _ _ _ _ _ _) (fun _ _ => Nat.le_refl _) ?_
      (first | refine wX ?_ | exact wZ)
      refine Nd.mk ⟨hsa, by omega, by omega⟩ ?_
      (first | refine wX ?_ | exact wZ)
      refine LdN.agg [.int .i64 4, .int .i64 num0, .string (bs text), .slice na names.length nc, .slice ia items.length ic] rfl (fun w hw => hw.2.2.1.1) rfl (fun k hk => by rw [Int.toNat_natCast]; exact grC_get l u k hk hp) ?_
      (first | refine wX ?_ | exact wZ)
      refine call1 (place_r (at0 i.ob) i.cap cs (u : Int) (fun h => by cases hob : i.ob with | none => exact List.eq_nil_of_length_eq_zero (hi.1 hob).1 | some b => rw [hob] at h; cases h) (by omega) _ (fun w hw => hw.1)) ?_
      by_cases hm : (u : Int) ∈ cs
      · have hix := List.idxOf_lt_length_iff.2 hm
        rw [if_pos hm, writeC_met (by simp) hm]
        generalize cs.idxOf (u : Int) = k at hix ⊢
        have hnl := num_len (n := k) (by omega)
        (first | refine wX ?_ | exact wZ)
        refine call1 (number_r k (by omega) _) ?_
        (first | refine wX ?_ | exact wZ)
        -- a byte ahead of what is there; 64: the byte, num k: what is there
        refine Nd.mk (by rw [bs_size]; show 1 + _ < _; first | omega | (simp only [List.length_append]; omega)) ?_
        rw [show (⟨#[64]⟩ : ByteArray) = bs [64] from rfl, bs_app]
        (first | refine wX ?_ | exact wZ)
        -- (i, j), ⟨hi, hj⟩: the index
        exact ⟨(i, j), ⟨hi, hj⟩, rfl, wkE_refl _, wkE_refl _, wkE_refl _, wkE_refl _, trivial⟩
      rw [if_neg hm]
      (first | refine wX ?_ | exact wZ)
      refine Nd.mk ⟨Nat.le_refl 1, rfl, rfl⟩ ?_
      (conv => whnf)
      refine AppN.grow 1 (iC cs) [.int .i64 (u : Int)] rfl rfl ⟨Nat.le_refl 1, ⟨by show (cs.length + 1) * 8 ≤ _; omega, by omega⟩, Nat.one_ne_zero⟩ fun cb ccap hcc _ => ?_
      have hcl : iC cs ++ [.int .i64 (u : Int)] = iC (cs ++ [(u : Int)]) := by simp [iC]
      have hll : cs.length + 1 = (cs ++ [(u : Int)]).length := by simp
      rw [hcl, hll]
      have hi1 : BSt.ok (cs ++ [(u : Int)]).length ⟨some cb, ccap⟩ := bst_some (by rw [← hll]; omega) (by rw [← hll]; exact hcc)
      have hlt := free_lt hin hm (t := cs ++ [(u : Int)]) (fun x hx => by simp [hx]) (by simp)
      have hnew := writeC_new (f := writeF (l.map (·.c)) n) (c := ⟨4, num0, text, names, items⟩) (w := ⟨[], cs, ss⟩) (a := (u : Int)) (by simp) hm
      (first | refine wX ?_ | exact wZ)
      rw [if_pos rfl] at hnew
      rw [hnew]
      have hnl := num_len (n := text.length) (by omega)
      refine call1 (text_r text (by omega) _) ?_
      (first | refine wX ?_ | exact wZ)
      -- a byte ahead of what is there; 34: the byte, x: what is there
      refine Nd.mk (by rw [bs_size]; show 1 + _ < _; first | omega | (simp only [List.length_append]; omega)) ?_
      rw [show (⟨#[34]⟩ : ByteArray) = bs [34] from rfl, bs_app]
      (first | refine wX ?_ | exact wZ)
      -- (⟨some cb, ccap⟩, j), ⟨hi1, hj⟩: the index
      exact ⟨(⟨some cb, ccap⟩, j), ⟨hi1, hj⟩, rfl, wkE_refl _, wkE_refl _, wkE_refl _, wkE_refl _, trivial⟩
    · have hsy := hcw.sym rfl
      simp only at hsy
      -- 5: the kind
      rw [writeF_eq, hat]
      refine ownC hm Tryz.func47 (by kernel_rfl) rfl rfl (fun _ _ => wD_ok _ _ _ _ _ _) (fun _ _ => Nat.le_refl _) ?_
      (first | refine wX ?_ | exact wZ)
      refine Nd.mk ⟨hsa, by omega, by omega⟩ ?_
      (first | refine wX ?_ | exact wZ)
      refine LdN.agg [.int .i64 5, .int .i64 num0, .string (bs text), .slice na names.length nc, .slice ia items.length ic] rfl (fun w hw => hw.2.2.1.1) rfl (fun k hk => by rw [Int.toNat_natCast]; exact grC_get l u k hk hp) ?_
      (first | refine wX ?_ | exact wZ)
      refine callG (symbol_r (.slice a l.length ca) (GrF a l) cs ss text i j hi hj (by omega) hls) [0, 1, 2, 3] rfl ⟨rfl, rfl, rfl, rfl, trivial⟩ rfl fun x hx => ?_
      (first | refine wX ?_ | exact wZ)
      -- x, hx: the index
      exact ⟨x, hx, rfl, wkE_refl _, wkE_refl _, wkE_refl _, wkE_refl _, trivial⟩
    · -- 6: the kind
      rw [writeF_eq, hat]
      refine ownC hm Tryz.func47 (by kernel_rfl) rfl rfl (fun _ _ => wD_ok _ _ _ _ _ _) (fun _ _ => Nat.le_refl _) ?_
      (first | refine wX ?_ | exact wZ)
      refine Nd.mk ⟨hsa, by omega, by omega⟩ ?_
      (first | refine wX ?_ | exact wZ)
      refine LdN.agg [.int .i64 6, .int .i64 num0, .string (bs text), .slice na names.length nc, .slice ia items.length ic] rfl (fun w hw => hw.2.2.1.1) rfl (fun k hk => by rw [Int.toNat_natCast]; exact grC_get l u k hk hp) ?_
      (first | refine wX ?_ | exact wZ)
      refine call1 (place_r (at0 i.ob) i.cap cs (u : Int) (fun h => by cases hob : i.ob with | none => exact List.eq_nil_of_length_eq_zero (hi.1 hob).1 | some b => rw [hob] at h; cases h) (by omega) _ (fun w hw => hw.1)) ?_
      by_cases hm : (u : Int) ∈ cs
      · have hix := List.idxOf_lt_length_iff.2 hm
        rw [if_pos hm, writeC_met (by simp) hm]
        generalize cs.idxOf (u : Int) = k at hix ⊢
        have hnl := num_len (n := k) (by omega)
        (first | refine wX ?_ | exact wZ)
        refine call1 (number_r k (by omega) _) ?_
        (first | refine wX ?_ | exact wZ)
        -- a byte ahead of what is there; 64: the byte, num k: what is there
        refine Nd.mk (by rw [bs_size]; show 1 + _ < _; first | omega | (simp only [List.length_append]; omega)) ?_
        rw [show (⟨#[64]⟩ : ByteArray) = bs [64] from rfl, bs_app]
        (first | refine wX ?_ | exact wZ)
        -- (i, j), ⟨hi, hj⟩: the index
        exact ⟨(i, j), ⟨hi, hj⟩, rfl, wkE_refl _, wkE_refl _, wkE_refl _, wkE_refl _, trivial⟩
      rw [if_neg hm]
      (first | refine wX ?_ | exact wZ)
      refine Nd.mk ⟨Nat.le_refl 1, rfl, rfl⟩ ?_
      (conv => whnf)
      refine AppN.grow 1 (iC cs) [.int .i64 (u : Int)] rfl rfl ⟨Nat.le_refl 1, ⟨by show (cs.length + 1) * 8 ≤ _; omega, by omega⟩, Nat.one_ne_zero⟩ fun cb ccap hcc _ => ?_
      have hcl : iC cs ++ [.int .i64 (u : Int)] = iC (cs ++ [(u : Int)]) := by simp [iC]
      have hll : cs.length + 1 = (cs ++ [(u : Int)]).length := by simp
      rw [hcl, hll]
      have hi1 : BSt.ok (cs ++ [(u : Int)]).length ⟨some cb, ccap⟩ := bst_some (by rw [← hll]; omega) (by rw [← hll]; exact hcc)
      have hlt := free_lt hin hm (t := cs ++ [(u : Int)]) (fun x hx => by simp [hx]) (by simp)
      have hnew := writeC_new (f := writeF (l.map (·.c)) n) (c := ⟨6, num0, text, names, items⟩) (w := ⟨[], cs, ss⟩) (a := (u : Int)) (by simp) hm
      (first | refine wX ?_ | exact wZ)
      have hlen := hcw.len
      simp only at hlen
      rw [if_neg (by simp), if_pos rfl] at hnew
      have hnl := num_len (n := items.length) (by omega)
      refine call1 (number_r items.length (by omega) _) ?_
      (first | refine wX ?_ | exact wZ)
      -- a byte ahead of what is there; 91: the byte, x: what is there
      refine Nd.mk (by rw [bs_size]; show 1 + _ < _; first | omega | (simp only [List.length_append]; omega)) ?_
      rw [show (⟨#[91]⟩ : ByteArray) = bs [91] from rfl, bs_app]
      (first | refine wX ?_ | exact wZ)
      -- 6: the kind, [91] ++ num items.length: the bytes ahead, hnew: what he says
      obtain ⟨w2, hw2⟩ : ∃ w2 : Wr, w2 = ⟨[91] ++ num items.length, cs ++ [(u : Int)], ss⟩ := ⟨_, rfl⟩
      have he : writeC (writeF (l.map (·.c)) n) ⟨6, num0, text, names, items⟩ ⟨[], cs, ss⟩ (u : Int) = items.foldl (writeF (l.map (·.c)) n) w2 := by rw [hw2]; exact hnew
      rw [he]
      have hl2 : Lim (items.foldl (writeF (l.map (·.c)) n) w2) := by rw [← he]; exact hlim
      have hfr : ∀ k, freeN (l.map (·.c)) ((items.take k).foldl (writeF (l.map (·.c)) n) w2).cells < n := fun k => by
        have h1 := free_mono (g := l.map (·.c)) (gone_fold (gone_write (l.map (·.c)) n) (items.take k) w2).sub
        have h2 : w2.cells = cs ++ [(u : Int)] := by rw [hw2]
        rw [h2] at h1
        omega
      refine LoopN.intro (Nat × BSt × BSt) (fun ⟨k, x⟩ => k ≤ items.length ∧ x.1.ok ((items.take k).foldl (writeF (l.map (·.c)) n) w2).cells.length ∧ x.2.ok ((items.take k).foldl (writeF (l.map (·.c)) n) w2).ss.length)
        (fun ⟨k, _⟩ => mkS Tryz.f47.ntmps 0 [(0, .c (.lp 0 0)), (5, .c (.lp 4 0)), (7, .c (.v (.string (bs ((items.take k).foldl (writeF (l.map (·.c)) n) w2).out)))), (9, .c (.v (.int .i64 (k : Int))))])
        (fun ⟨k, x⟩ => wD (.slice a l.length ca) (GrF a l) ((items.take k).foldl (writeF (l.map (·.c)) n) w2).cells ((items.take k).foldl (writeF (l.map (·.c)) n) w2).ss x.1 x.2 ++ [.blk 87 [.v (.int .i64 6), .v (.int .i64 num0), .v (.string (bs text)), .v (.slice na names.length nc), .v (.slice ia items.length ic)], .dead]) (fun ⟨k, _⟩ => items.length - k) [] rfl (fun _ => rfl) (fun _ => rfl) (fun _ _ => okHB_eq rfl) ?_ ?_
      · refine ⟨(0, ⟨some cb, ccap⟩, j), ⟨Nat.zero_le _, by rw [hw2]; exact hi1, by rw [hw2]; exact hj⟩, ?_, ?_⟩
        · rw [hw2]
          (repeat' (first | exact trivial | refine And.intro (by with_reducible rfl) ?_ | (with_reducible exact wkC_refl _) | (with_reducible exact wkCs_refl _) | refine And.intro ?_ ?_))
          all_goals rfl
        · rw [hw2]
          exact ⟨wkE_refl _, wkE_refl _, wkE_refl _, wkE_refl _, wkE_refl _, trivial, trivial⟩
      rintro ⟨k, x0⟩ ⟨hk, hx1, hx2⟩
      obtain ⟨i3, j3⟩ := x0
      simp only at hx1 hx2
      (first | refine wX ?_ | exact wZ)
      refine brd_dec (fun h1 => ?_) (fun h1 => ?_)
      · -- an item: what is known of it
        obtain ⟨x, hx⟩ : ∃ z, items[k]? = some z := ⟨_, List.getElem?_eq_getElem (by omega)⟩
        have hxi := houts x (List.mem_of_getElem? hx)
        obtain ⟨xn, rfl⟩ : ∃ xn : Nat, x = (xn : Int) := ⟨x.toNat, by have := hxi.1; omega⟩
        have hxl : xn < l.length := by have := hxi.2; simp only [List.length_map] at this; omega
        have hxa : ia.isSome = true := by
          cases ia with
          | none => have h0 : items = [] := hpo.ia rfl; rw [h0] at hx; cases hx
          | some b => rfl
        have hnx := fold_next (f := writeF (l.map (·.c)) n) (b := w2) hx
        have hl6 := fold_lim (gone_write (l.map (·.c)) n) hl2 (k + 1)
        have hfk := hfr k
        obtain ⟨wk, hwk⟩ : ∃ w : Wr, w = (items.take k).foldl (writeF (l.map (·.c)) n) w2 := ⟨_, rfl⟩
        rw [hnx] at hl6
        rw [← hwk] at hnx hl6 hfk hx1 hx2 ⊢
        have hat2 := write_at (l.map (·.c)) n wk (xn : Int)
        have hl7 : Lim (writeF (l.map (·.c)) n ⟨[], wk.cells, wk.ss⟩ (xn : Int)) := by
          rw [hat2] at hl6
          exact ⟨by have := hl6.o; unfold shiftW at this; simp only [List.length_append] at this; omega, hl6.s, hl6.c⟩
        have hl8 := hl6.o
        rw [hat2] at hnx hl8
        unfold shiftW at hl8
        simp only [List.length_append] at hl8
        (first | refine wX ?_ | exact wZ)
        refine Nd.mk ⟨hxa, by omega, by omega⟩ ?_
        (first | refine wX ?_ | exact wZ)
        refine LdN.one (.int .i64 (xn : Int)) rfl (fun w hw => (hw.2.2.1.2 _ hpm).2) (by rw [Int.toNat_natCast]; show (iC items)[k * 1]? = _; rw [Nat.mul_one]; exact iC_get hx) ?_
        (first | refine wX ?_ | exact wZ)
        refine callG (ih wk.cells wk.ss i3 j3 xn hxl hfk hx1 hx2 hl7) [0, 1, 2, 3] rfl ⟨rfl, rfl, rfl, rfl, trivial⟩ rfl fun y hy => ?_
        generalize writeF (l.map (·.c)) n ⟨[], wk.cells, wk.ss⟩ (xn : Int) = V at hnx hl8 hy ⊢
        (first | refine wX ?_ | exact wZ)
        refine Nd.mk (by rw [bs_size, bs_size]; omega) ?_
        rw [bs_app]
        (first | refine wX ?_ | exact wZ)
        have e1 : ((items.take (k + 1)).foldl (writeF (l.map (·.c)) n) w2).out = wk.out ++ V.out := by rw [hnx]; rfl
        have e2 : ((items.take (k + 1)).foldl (writeF (l.map (·.c)) n) w2).cells = V.cells := by rw [hnx]; rfl
        have e3 : ((items.take (k + 1)).foldl (writeF (l.map (·.c)) n) w2).ss = V.ss := by rw [hnx]; rfl
        refine ⟨(k + 1, y), ⟨by omega, by rw [e2]; exact hy.1, by rw [e3]; exact hy.2⟩, by show items.length - (k + 1) < items.length - k; omega, ?_, ?_⟩
        · (repeat' (first | exact trivial | refine And.intro (by with_reducible rfl) ?_ | (with_reducible exact wkC_refl _) | (with_reducible exact wkCs_refl _) | refine And.intro ?_ ?_))
          all_goals first | rfl | exact av_int (by rw [wrap_i64 (by omega)]; omega) | (rw [e1])
        · show wkH _ (wD _ _ ((items.take (k + 1)).foldl (writeF (l.map (·.c)) n) w2).cells ((items.take (k + 1)).foldl (writeF (l.map (·.c)) n) w2).ss _ _ ++ _)
          rw [e2, e3]
          exact ⟨wkE_refl _, wkE_refl _, wkE_refl _, wkE_refl _, wkE_refl _, trivial, trivial⟩
      · obtain rfl : k = items.length := by omega
        rw [List.take_length] at hx1 hx2 ⊢
        (first | refine wX ?_ | exact wZ)
        -- (i3, j3), ⟨hx1, hx2⟩: the index
        exact ⟨(i3, j3), ⟨hx1, hx2⟩, rfl, wkE_refl _, wkE_refl _, wkE_refl _, wkE_refl _, trivial⟩
    · -- 7: the kind
      rw [writeF_eq, hat]
      refine ownC hm Tryz.func47 (by kernel_rfl) rfl rfl (fun _ _ => wD_ok _ _ _ _ _ _) (fun _ _ => Nat.le_refl _) ?_
      (first | refine wX ?_ | exact wZ)
      refine Nd.mk ⟨hsa, by omega, by omega⟩ ?_
      (first | refine wX ?_ | exact wZ)
      refine LdN.agg [.int .i64 7, .int .i64 num0, .string (bs text), .slice na names.length nc, .slice ia items.length ic] rfl (fun w hw => hw.2.2.1.1) rfl (fun k hk => by rw [Int.toNat_natCast]; exact grC_get l u k hk hp) ?_
      (first | refine wX ?_ | exact wZ)
      refine call1 (place_r (at0 i.ob) i.cap cs (u : Int) (fun h => by cases hob : i.ob with | none => exact List.eq_nil_of_length_eq_zero (hi.1 hob).1 | some b => rw [hob] at h; cases h) (by omega) _ (fun w hw => hw.1)) ?_
      by_cases hm : (u : Int) ∈ cs
      · have hix := List.idxOf_lt_length_iff.2 hm
        rw [if_pos hm, writeC_met (by simp) hm]
        generalize cs.idxOf (u : Int) = k at hix ⊢
        have hnl := num_len (n := k) (by omega)
        (first | refine wX ?_ | exact wZ)
        refine call1 (number_r k (by omega) _) ?_
        (first | refine wX ?_ | exact wZ)
        -- a byte ahead of what is there; 64: the byte, num k: what is there
        refine Nd.mk (by rw [bs_size]; show 1 + _ < _; first | omega | (simp only [List.length_append]; omega)) ?_
        rw [show (⟨#[64]⟩ : ByteArray) = bs [64] from rfl, bs_app]
        (first | refine wX ?_ | exact wZ)
        -- (i, j), ⟨hi, hj⟩: the index
        exact ⟨(i, j), ⟨hi, hj⟩, rfl, wkE_refl _, wkE_refl _, wkE_refl _, wkE_refl _, trivial⟩
      rw [if_neg hm]
      (first | refine wX ?_ | exact wZ)
      refine Nd.mk ⟨Nat.le_refl 1, rfl, rfl⟩ ?_
      (conv => whnf)
      refine AppN.grow 1 (iC cs) [.int .i64 (u : Int)] rfl rfl ⟨Nat.le_refl 1, ⟨by show (cs.length + 1) * 8 ≤ _; omega, by omega⟩, Nat.one_ne_zero⟩ fun cb ccap hcc _ => ?_
      have hcl : iC cs ++ [.int .i64 (u : Int)] = iC (cs ++ [(u : Int)]) := by simp [iC]
      have hll : cs.length + 1 = (cs ++ [(u : Int)]).length := by simp
      rw [hcl, hll]
      have hi1 : BSt.ok (cs ++ [(u : Int)]).length ⟨some cb, ccap⟩ := bst_some (by rw [← hll]; omega) (by rw [← hll]; exact hcc)
      have hlt := free_lt hin hm (t := cs ++ [(u : Int)]) (fun x hx => by simp [hx]) (by simp)
      have hnew := writeC_new (f := writeF (l.map (·.c)) n) (c := ⟨7, num0, text, names, items⟩) (w := ⟨[], cs, ss⟩) (a := (u : Int)) (by simp) hm
      (first | refine wX ?_ | exact wZ)
      have hlen := hcw.len
      simp only at hlen
      rw [if_neg (by simp), if_neg (by simp), if_pos rfl] at hnew
      have hnl := num_len (n := items.length / 2) (by omega)
      rw [show ((items.length : Int)).tdiv 2 = ((items.length / 2 : Nat) : Int) from (Int.ofNat_tdiv _ _).symm]
      try rw [wrap_i64 (x := ((items.length / 2 : Nat) : Int)) (by omega)]
      refine call1 (number_r (items.length / 2) (by omega) _) ?_
      (first | refine wX ?_ | exact wZ)
      -- a byte ahead of what is there; 123: the byte, x: what is there
      refine Nd.mk (by rw [bs_size]; show 1 + _ < _; first | omega | (simp only [List.length_append]; omega)) ?_
      rw [show (⟨#[123]⟩ : ByteArray) = bs [123] from rfl, bs_app]
      (first | refine wX ?_ | exact wZ)
      -- 7: the kind, [123] ++ num (items.length / 2): the bytes ahead, hnew: what he says
      obtain ⟨w2, hw2⟩ : ∃ w2 : Wr, w2 = ⟨[123] ++ num (items.length / 2), cs ++ [(u : Int)], ss⟩ := ⟨_, rfl⟩
      have he : writeC (writeF (l.map (·.c)) n) ⟨7, num0, text, names, items⟩ ⟨[], cs, ss⟩ (u : Int) = items.foldl (writeF (l.map (·.c)) n) w2 := by rw [hw2]; exact hnew
      rw [he]
      have hl2 : Lim (items.foldl (writeF (l.map (·.c)) n) w2) := by rw [← he]; exact hlim
      have hfr : ∀ k, freeN (l.map (·.c)) ((items.take k).foldl (writeF (l.map (·.c)) n) w2).cells < n := fun k => by
        have h1 := free_mono (g := l.map (·.c)) (gone_fold (gone_write (l.map (·.c)) n) (items.take k) w2).sub
        have h2 : w2.cells = cs ++ [(u : Int)] := by rw [hw2]
        rw [h2] at h1
        omega
      refine LoopN.intro (Nat × BSt × BSt) (fun ⟨k, x⟩ => k ≤ items.length ∧ x.1.ok ((items.take k).foldl (writeF (l.map (·.c)) n) w2).cells.length ∧ x.2.ok ((items.take k).foldl (writeF (l.map (·.c)) n) w2).ss.length)
        (fun ⟨k, _⟩ => mkS Tryz.f47.ntmps 0 [(0, .c (.lp 0 0)), (5, .c (.lp 4 0)), (7, .c (.v (.string (bs ((items.take k).foldl (writeF (l.map (·.c)) n) w2).out)))), (9, .c (.v (.int .i64 (k : Int))))])
        (fun ⟨k, x⟩ => wD (.slice a l.length ca) (GrF a l) ((items.take k).foldl (writeF (l.map (·.c)) n) w2).cells ((items.take k).foldl (writeF (l.map (·.c)) n) w2).ss x.1 x.2 ++ [.blk 87 [.v (.int .i64 7), .v (.int .i64 num0), .v (.string (bs text)), .v (.slice na names.length nc), .v (.slice ia items.length ic)], .dead]) (fun ⟨k, _⟩ => items.length - k) [] rfl (fun _ => rfl) (fun _ => rfl) (fun _ _ => okHB_eq rfl) ?_ ?_
      · refine ⟨(0, ⟨some cb, ccap⟩, j), ⟨Nat.zero_le _, by rw [hw2]; exact hi1, by rw [hw2]; exact hj⟩, ?_, ?_⟩
        · rw [hw2]
          (repeat' (first | exact trivial | refine And.intro (by with_reducible rfl) ?_ | (with_reducible exact wkC_refl _) | (with_reducible exact wkCs_refl _) | refine And.intro ?_ ?_))
          all_goals rfl
        · rw [hw2]
          exact ⟨wkE_refl _, wkE_refl _, wkE_refl _, wkE_refl _, wkE_refl _, trivial, trivial⟩
      rintro ⟨k, x0⟩ ⟨hk, hx1, hx2⟩
      obtain ⟨i3, j3⟩ := x0
      simp only at hx1 hx2
      (first | refine wX ?_ | exact wZ)
      refine brd_dec (fun h1 => ?_) (fun h1 => ?_)
      · -- an item: what is known of it
        obtain ⟨x, hx⟩ : ∃ z, items[k]? = some z := ⟨_, List.getElem?_eq_getElem (by omega)⟩
        have hxi := houts x (List.mem_of_getElem? hx)
        obtain ⟨xn, rfl⟩ : ∃ xn : Nat, x = (xn : Int) := ⟨x.toNat, by have := hxi.1; omega⟩
        have hxl : xn < l.length := by have := hxi.2; simp only [List.length_map] at this; omega
        have hxa : ia.isSome = true := by
          cases ia with
          | none => have h0 : items = [] := hpo.ia rfl; rw [h0] at hx; cases hx
          | some b => rfl
        have hnx := fold_next (f := writeF (l.map (·.c)) n) (b := w2) hx
        have hl6 := fold_lim (gone_write (l.map (·.c)) n) hl2 (k + 1)
        have hfk := hfr k
        obtain ⟨wk, hwk⟩ : ∃ w : Wr, w = (items.take k).foldl (writeF (l.map (·.c)) n) w2 := ⟨_, rfl⟩
        rw [hnx] at hl6
        rw [← hwk] at hnx hl6 hfk hx1 hx2 ⊢
        have hat2 := write_at (l.map (·.c)) n wk (xn : Int)
        have hl7 : Lim (writeF (l.map (·.c)) n ⟨[], wk.cells, wk.ss⟩ (xn : Int)) := by
          rw [hat2] at hl6
          exact ⟨by have := hl6.o; unfold shiftW at this; simp only [List.length_append] at this; omega, hl6.s, hl6.c⟩
        have hl8 := hl6.o
        rw [hat2] at hnx hl8
        unfold shiftW at hl8
        simp only [List.length_append] at hl8
        (first | refine wX ?_ | exact wZ)
        refine Nd.mk ⟨hxa, by omega, by omega⟩ ?_
        (first | refine wX ?_ | exact wZ)
        refine LdN.one (.int .i64 (xn : Int)) rfl (fun w hw => (hw.2.2.1.2 _ hpm).2) (by rw [Int.toNat_natCast]; show (iC items)[k * 1]? = _; rw [Nat.mul_one]; exact iC_get hx) ?_
        (first | refine wX ?_ | exact wZ)
        refine callG (ih wk.cells wk.ss i3 j3 xn hxl hfk hx1 hx2 hl7) [0, 1, 2, 3] rfl ⟨rfl, rfl, rfl, rfl, trivial⟩ rfl fun y hy => ?_
        generalize writeF (l.map (·.c)) n ⟨[], wk.cells, wk.ss⟩ (xn : Int) = V at hnx hl8 hy ⊢
        (first | refine wX ?_ | exact wZ)
        refine Nd.mk (by rw [bs_size, bs_size]; omega) ?_
        rw [bs_app]
        (first | refine wX ?_ | exact wZ)
        have e1 : ((items.take (k + 1)).foldl (writeF (l.map (·.c)) n) w2).out = wk.out ++ V.out := by rw [hnx]; rfl
        have e2 : ((items.take (k + 1)).foldl (writeF (l.map (·.c)) n) w2).cells = V.cells := by rw [hnx]; rfl
        have e3 : ((items.take (k + 1)).foldl (writeF (l.map (·.c)) n) w2).ss = V.ss := by rw [hnx]; rfl
        refine ⟨(k + 1, y), ⟨by omega, by rw [e2]; exact hy.1, by rw [e3]; exact hy.2⟩, by show items.length - (k + 1) < items.length - k; omega, ?_, ?_⟩
        · (repeat' (first | exact trivial | refine And.intro (by with_reducible rfl) ?_ | (with_reducible exact wkC_refl _) | (with_reducible exact wkCs_refl _) | refine And.intro ?_ ?_))
          all_goals first | rfl | exact av_int (by rw [wrap_i64 (by omega)]; omega) | (rw [e1])
        · show wkH _ (wD _ _ ((items.take (k + 1)).foldl (writeF (l.map (·.c)) n) w2).cells ((items.take (k + 1)).foldl (writeF (l.map (·.c)) n) w2).ss _ _ ++ _)
          rw [e2, e3]
          exact ⟨wkE_refl _, wkE_refl _, wkE_refl _, wkE_refl _, wkE_refl _, trivial, trivial⟩
      · obtain rfl : k = items.length := by omega
        rw [List.take_length] at hx1 hx2 ⊢
        (first | refine wX ?_ | exact wZ)
        -- (i3, j3), ⟨hx1, hx2⟩: the index
        exact ⟨(i3, j3), ⟨hx1, hx2⟩, rfl, wkE_refl _, wkE_refl _, wkE_refl _, wkE_refl _, trivial⟩
    · -- 8: the kind
      rw [writeF_eq, hat]
      refine ownC hm Tryz.func47 (by kernel_rfl) rfl rfl (fun _ _ => wD_ok _ _ _ _ _ _) (fun _ _ => Nat.le_refl _) ?_
      (first | refine wX ?_ | exact wZ)
      refine Nd.mk ⟨hsa, by omega, by omega⟩ ?_
      (first | refine wX ?_ | exact wZ)
      refine LdN.agg [.int .i64 8, .int .i64 num0, .string (bs text), .slice na names.length nc, .slice ia items.length ic] rfl (fun w hw => hw.2.2.1.1) rfl (fun k hk => by rw [Int.toNat_natCast]; exact grC_get l u k hk hp) ?_
      (first | refine wX ?_ | exact wZ)
      refine call1 (place_r (at0 i.ob) i.cap cs (u : Int) (fun h => by cases hob : i.ob with | none => exact List.eq_nil_of_length_eq_zero (hi.1 hob).1 | some b => rw [hob] at h; cases h) (by omega) _ (fun w hw => hw.1)) ?_
      by_cases hm : (u : Int) ∈ cs
      · have hix := List.idxOf_lt_length_iff.2 hm
        rw [if_pos hm, writeC_met (by simp) hm]
        generalize cs.idxOf (u : Int) = k at hix ⊢
        have hnl := num_len (n := k) (by omega)
        (first | refine wX ?_ | exact wZ)
        refine call1 (number_r k (by omega) _) ?_
        (first | refine wX ?_ | exact wZ)
        -- a byte ahead of what is there; 64: the byte, num k: what is there
        refine Nd.mk (by rw [bs_size]; show 1 + _ < _; first | omega | (simp only [List.length_append]; omega)) ?_
        rw [show (⟨#[64]⟩ : ByteArray) = bs [64] from rfl, bs_app]
        (first | refine wX ?_ | exact wZ)
        -- (i, j), ⟨hi, hj⟩: the index
        exact ⟨(i, j), ⟨hi, hj⟩, rfl, wkE_refl _, wkE_refl _, wkE_refl _, wkE_refl _, trivial⟩
      rw [if_neg hm]
      (first | refine wX ?_ | exact wZ)
      refine Nd.mk ⟨Nat.le_refl 1, rfl, rfl⟩ ?_
      (conv => whnf)
      refine AppN.grow 1 (iC cs) [.int .i64 (u : Int)] rfl rfl ⟨Nat.le_refl 1, ⟨by show (cs.length + 1) * 8 ≤ _; omega, by omega⟩, Nat.one_ne_zero⟩ fun cb ccap hcc _ => ?_
      have hcl : iC cs ++ [.int .i64 (u : Int)] = iC (cs ++ [(u : Int)]) := by simp [iC]
      have hll : cs.length + 1 = (cs ++ [(u : Int)]).length := by simp
      rw [hcl, hll]
      have hi1 : BSt.ok (cs ++ [(u : Int)]).length ⟨some cb, ccap⟩ := bst_some (by rw [← hll]; omega) (by rw [← hll]; exact hcc)
      have hlt := free_lt hin hm (t := cs ++ [(u : Int)]) (fun x hx => by simp [hx]) (by simp)
      have hnew := writeC_new (f := writeF (l.map (·.c)) n) (c := ⟨8, num0, text, names, items⟩) (w := ⟨[], cs, ss⟩) (a := (u : Int)) (by simp) hm
      (first | refine wX ?_ | exact wZ)
      have hlen := hcw.len
      have hcls := (hcw.cls rfl).2
      have hns := hcw.lens rfl
      have hnam := hcw.nam
      simp only at hlen hcls hns hnam
      rw [if_neg (by simp), if_neg (by simp), if_neg (by simp)] at hnew
      refine callG (symbol_r (.slice a l.length ca) (GrF a l) (cs ++ [(u : Int)]) ss text ⟨some cb, ccap⟩ j hi1 hj (by omega) hls) [0, 1, 2, 3] rfl ⟨rfl, rfl, rfl, rfl, trivial⟩ rfl fun x hx => ?_
      obtain ⟨i4, j4⟩ := x
      have hsa2 := sym_at (putW { out := [], cells := cs ++ [(u : Int)], ss := ss } [111]) text
      have hlS : Lim (symW (putW { out := [], cells := cs ++ [(u : Int)], ss := ss } [111]) text) := by
        rw [hnew] at hlim
        have hlim2 : Lim ((names.zip items).foldl (pairW (l.map (·.c)) n) (putW (symW (putW { out := [], cells := cs ++ [(u : Int)], ss := ss } [111]) text) (num names.length))) := hlim
        exact (gone_put _ _).lim ((gone_fold (gone_pair (l.map (·.c)) n) _ _).lim hlim2)
      have hsl := hlS.o
      have eS : symW ⟨[], (putW { out := [], cells := cs ++ [(u : Int)], ss := ss } [111]).cells, (putW { out := [], cells := cs ++ [(u : Int)], ss := ss } [111]).ss⟩ text = symW ⟨[], cs ++ [(u : Int)], ss⟩ text := rfl
      rw [eS] at hsa2
      rw [hsa2] at hnew hsl
      have hSc : (symW ⟨[], cs ++ [(u : Int)], ss⟩ text).cells = cs ++ [(u : Int)] := sym_cells _ _
      generalize symW ⟨[], cs ++ [(u : Int)], ss⟩ text = S at hx hnew hsl hSc ⊢
      obtain ⟨hx1, hx2⟩ := hx
      simp only at hx1 hx2
      have hso : (shiftW (putW { out := [], cells := cs ++ [(u : Int)], ss := ss } [111]).out S).out = [111] ++ S.out := rfl
      rw [hso] at hsl
      simp only [List.length_append] at hsl
      have hnl := num_len (n := names.length) (by omega)
      (first | refine wX ?_ | exact wZ)
      -- a byte ahead of what is there; 111: the byte, x: what is there
      refine Nd.mk (by rw [bs_size]; show 1 + _ < _; first | omega | (simp only [List.length_append]; omega)) ?_
      rw [show (⟨#[111]⟩ : ByteArray) = bs [111] from rfl, bs_app]
      (first | refine wX ?_ | exact wZ)
      refine call1 (number_r names.length (by omega) _) ?_
      (first | refine wX ?_ | exact wZ)
      refine Nd.mk (by rw [bs_size, bs_size]; simp only [List.length_append, List.length_cons, List.length_nil]; omega) ?_
      rw [bs_app]
      (first | refine wX ?_ | exact wZ)
      obtain ⟨w2, hw2⟩ : ∃ w2 : Wr, w2 = ⟨[111] ++ S.out ++ num names.length, S.cells, S.ss⟩ := ⟨_, rfl⟩
      have he : writeC (writeF (l.map (·.c)) n) ⟨8, num0, text, names, items⟩ ⟨[], cs, ss⟩ (u : Int) = (names.zip items).foldl (pairW (l.map (·.c)) n) w2 := by rw [hnew, hw2]; rfl
      rw [he]
      have hl2 : Lim ((names.zip items).foldl (pairW (l.map (·.c)) n) w2) := by rw [← he]; exact hlim
      have hfr : ∀ k, freeN (l.map (·.c)) (((names.zip items).take k).foldl (pairW (l.map (·.c)) n) w2).cells < n := fun k => by
        have h1 := free_mono (g := l.map (·.c)) (gone_fold (gone_pair (l.map (·.c)) n) ((names.zip items).take k) w2).sub
        have h2 : w2.cells = cs ++ [(u : Int)] := by rw [hw2]; exact hSc
        rw [h2] at h1
        omega
      have hzl : (names.zip items).length = items.length := by rw [List.length_zip]; omega
      refine LoopN.intro (Nat × BSt × BSt) (fun ⟨k, x⟩ => k ≤ items.length ∧ x.1.ok (((names.zip items).take k).foldl (pairW (l.map (·.c)) n) w2).cells.length ∧ x.2.ok (((names.zip items).take k).foldl (pairW (l.map (·.c)) n) w2).ss.length)
        (fun ⟨k, _⟩ => mkS Tryz.f47.ntmps 0 [(0, .c (.lp 0 0)), (5, .c (.lp 4 0)), (7, .c (.v (.string (bs (((names.zip items).take k).foldl (pairW (l.map (·.c)) n) w2).out)))), (9, .c (.v (.int .i64 (k : Int))))])
        (fun ⟨k, x⟩ => wD (.slice a l.length ca) (GrF a l) (((names.zip items).take k).foldl (pairW (l.map (·.c)) n) w2).cells (((names.zip items).take k).foldl (pairW (l.map (·.c)) n) w2).ss x.1 x.2 ++ [.blk 87 [.v (.int .i64 8), .v (.int .i64 num0), .v (.string (bs text)), .v (.slice na names.length nc), .v (.slice ia items.length ic)], .dead]) (fun ⟨k, _⟩ => items.length - k) [] rfl (fun _ => rfl) (fun _ => rfl) (fun _ _ => okHB_eq rfl) ?_ ?_
      · refine ⟨(0, i4, j4), ⟨Nat.zero_le _, by rw [hw2]; exact hx1, by rw [hw2]; exact hx2⟩, ?_, ?_⟩
        · rw [hw2]
          (repeat' (first | exact trivial | refine And.intro (by with_reducible rfl) ?_ | (with_reducible exact wkC_refl _) | (with_reducible exact wkCs_refl _) | refine And.intro ?_ ?_))
          all_goals rfl
        · rw [hw2]
          exact ⟨wkE_refl _, wkE_refl _, wkE_refl _, wkE_refl _, wkE_refl _, trivial, trivial⟩
      rintro ⟨k, x0⟩ ⟨hk, hx3, hx4⟩
      obtain ⟨i3, j3⟩ := x0
      simp only at hx3 hx4
      (first | refine wX ?_ | exact wZ)
      refine brd_dec (fun h1 => ?_) (fun h1 => ?_)
      · -- an item: what is known of it
        obtain ⟨x, hx⟩ : ∃ z, items[k]? = some z := ⟨_, List.getElem?_eq_getElem (by omega)⟩
        have hxi := houts x (List.mem_of_getElem? hx)
        obtain ⟨xn, rfl⟩ : ∃ xn : Nat, x = (xn : Int) := ⟨x.toNat, by have := hxi.1; omega⟩
        have hxl : xn < l.length := by have := hxi.2; simp only [List.length_map] at this; omega
        have hxa : ia.isSome = true := by
          cases ia with
          | none => have h0 : items = [] := hpo.ia rfl; rw [h0] at hx; cases hx
          | some b => rfl
        obtain ⟨nm, hnm⟩ : ∃ z, names[k]? = some z := ⟨_, List.getElem?_eq_getElem (by omega)⟩
        have hnma : na.isSome = true := by
          cases na with
          | none => have h0 : names = [] := hpo.na rfl; rw [h0] at hnm; cases hnm
          | some b => rfl
        have hn40 := (hnam nm (List.mem_of_getElem? hnm)).2
        have hz : (names.zip items)[k]? = some (nm, (xn : Int)) := List.getElem?_zip_eq_some.2 ⟨hnm, hx⟩
        have hnx := fold_next (f := pairW (l.map (·.c)) n) (b := w2) hz
        have hl6 := fold_lim (gone_pair (l.map (·.c)) n) hl2 (k + 1)
        have hfk := hfr k
        obtain ⟨wk, hwk⟩ : ∃ w : Wr, w = ((names.zip items).take k).foldl (pairW (l.map (·.c)) n) w2 := ⟨_, rfl⟩
        rw [hnx] at hl6
        rw [← hwk] at hnx hl6 hfk hx3 hx4 ⊢
        have hl6b : Lim (writeF (l.map (·.c)) n (symW wk nm) (xn : Int)) := hl6
        have hnx2 : ((names.zip items).take (k + 1)).foldl (pairW (l.map (·.c)) n) w2 = writeF (l.map (·.c)) n (symW wk nm) (xn : Int) := hnx
        have hl7 : Lim (symW wk nm) := (gone_write _ n _ _).lim hl6b
        have hl8 := ((gone_sym wk nm).lim hl7).s
        have eq1 : writeF (l.map (·.c)) n (symW wk nm) (xn : Int) = shiftW wk.out (shiftW (symW ⟨[], wk.cells, wk.ss⟩ nm).out (writeF (l.map (·.c)) n ⟨[], (symW ⟨[], wk.cells, wk.ss⟩ nm).cells, (symW ⟨[], wk.cells, wk.ss⟩ nm).ss⟩ (xn : Int))) := by
          rw [sym_at wk nm, write_shift, write_at (l.map (·.c)) n (symW ⟨[], wk.cells, wk.ss⟩ nm)]
        rw [eq1] at hnx2 hl6b
        have hSk : (symW ⟨[], wk.cells, wk.ss⟩ nm).cells = wk.cells := sym_cells _ _
        (first | refine wX ?_ | exact wZ)
        refine Nd.mk ⟨hnma, by omega, by omega⟩ ?_
        (first | refine wX ?_ | exact wZ)
        refine LdN.one (.string (bs nm)) rfl (fun w hw => (hw.2.2.1.2 _ hpm).1) (by rw [Int.toNat_natCast]; show (strC names)[k * 1]? = _; rw [Nat.mul_one]; exact strC_get hnm) ?_
        (first | refine wX ?_ | exact wZ)
        refine callG (symbol_r (.slice a l.length ca) (GrF a l) wk.cells wk.ss nm i3 j3 hx3 hx4 (by omega) hl8) [0, 1, 2, 3] rfl ⟨rfl, rfl, rfl, rfl, trivial⟩ rfl fun y hy => ?_
        obtain ⟨i5, j5⟩ := y
        generalize symW ⟨[], wk.cells, wk.ss⟩ nm = T at hy hnx2 hl6b hSk ⊢
        obtain ⟨hy1, hy2⟩ := hy
        simp only at hy1 hy2
        have hl9 := hl6b.o
        unfold shiftW at hl9
        simp only [List.length_append] at hl9
        have hl10 : Lim (writeF (l.map (·.c)) n ⟨[], T.cells, T.ss⟩ (xn : Int)) := ⟨by omega, hl6b.s, hl6b.c⟩
        (first | refine wX ?_ | exact wZ)
        refine Nd.mk (by rw [bs_size, bs_size]; omega) ?_
        rw [bs_app]
        (first | refine wX ?_ | exact wZ)
        refine Nd.mk ⟨hxa, by omega, by omega⟩ ?_
        (first | refine wX ?_ | exact wZ)
        refine LdN.one (.int .i64 (xn : Int)) rfl (fun w hw => (hw.2.2.1.2 _ hpm).2) (by rw [Int.toNat_natCast]; show (iC items)[k * 1]? = _; rw [Nat.mul_one]; exact iC_get hx) ?_
        (first | refine wX ?_ | exact wZ)
        refine callG (ih T.cells T.ss i5 j5 xn hxl (by rw [hSk]; exact hfk) hy1 hy2 hl10) [0, 1, 2, 3] rfl ⟨rfl, rfl, rfl, rfl, trivial⟩ rfl fun z hz3 => ?_
        generalize writeF (l.map (·.c)) n ⟨[], T.cells, T.ss⟩ (xn : Int) = V at hnx2 hl9 hz3 ⊢
        (first | refine wX ?_ | exact wZ)
        refine Nd.mk (by rw [bs_size, bs_size]; simp only [List.length_append]; omega) ?_
        rw [bs_app]
        (first | refine wX ?_ | exact wZ)
        have e1 : (((names.zip items).take (k + 1)).foldl (pairW (l.map (·.c)) n) w2).out = wk.out ++ T.out ++ V.out := by rw [hnx2]; unfold shiftW; simp
        have e2 : (((names.zip items).take (k + 1)).foldl (pairW (l.map (·.c)) n) w2).cells = V.cells := by rw [hnx2]; rfl
        have e3 : (((names.zip items).take (k + 1)).foldl (pairW (l.map (·.c)) n) w2).ss = V.ss := by rw [hnx2]; rfl
        refine ⟨(k + 1, z), ⟨by omega, by rw [e2]; exact hz3.1, by rw [e3]; exact hz3.2⟩, by show items.length - (k + 1) < items.length - k; omega, ?_, ?_⟩
        · (repeat' (first | exact trivial | refine And.intro (by with_reducible rfl) ?_ | (with_reducible exact wkC_refl _) | (with_reducible exact wkCs_refl _) | refine And.intro ?_ ?_))
          all_goals first | rfl | exact av_int (by rw [wrap_i64 (by omega)]; omega) | (rw [e1])
        · show wkH _ (wD _ _ (((names.zip items).take (k + 1)).foldl (pairW (l.map (·.c)) n) w2).cells (((names.zip items).take (k + 1)).foldl (pairW (l.map (·.c)) n) w2).ss _ _ ++ _)
          rw [e2, e3]
          exact ⟨wkE_refl _, wkE_refl _, wkE_refl _, wkE_refl _, wkE_refl _, trivial, trivial⟩
      · obtain rfl : k = items.length := by omega
        rw [← hzl, List.take_length] at hx3 hx4
        rw [show (names.zip items).take items.length = names.zip items by rw [← hzl, List.take_length]]
        (first | refine wX ?_ | exact wZ)
        -- (i3, j3), ⟨hx3, hx4⟩: the index
        exact ⟨(i3, j3), ⟨hx3, hx4⟩, rfl, wkE_refl _, wkE_refl _, wkE_refl _, wkE_refl _, trivial⟩
end Go.Proofs.YtgogonnnojcioaaGreatDoor
