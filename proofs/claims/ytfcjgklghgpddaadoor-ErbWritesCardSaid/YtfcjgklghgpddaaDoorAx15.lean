/-
  AX, fifteenth text: how slices are used.
-/
import Derived.Test.YtfcjgklghgpddaaDoorAx14
import Derived.DataElems
namespace Go.AX
open Go.RowKit

theorem All.facts {ρ : List Loc} {H : List Ent} {w : World} (h : All ρ H w) : Facts H w := by
  refine Facts_of (ρ := ρ) (S := fun _ => True) fun e he => ?_
  obtain ⟨i, hi⟩ := List.getElem?_of_mem he
  have := h i e hi
  cases e with
  | fact F => exact this
  | fz => exact this.2
  | app T sz xs a n cap => exact appSl (ρ := ρ) (S := fun _ => True) (i := i) this
  | _ => trivial

/-- The result is a plain value; the facts on it are those at hand. -/
theorem fin_p {R : Value → (World → Prop) → Prop} {x : Value} {H : List Ent} (G : World → Prop) (h : R x G) (hG : ∀ w, Facts H w → G w) : notPan (.val (.c (.v x))) ∧ Fin R (.val (.c (.v x))) H :=
  ⟨trivial, fun ρ v _ _ hv => by
    obtain ⟨_, e, hr⟩ := hv
    obtain rfl := Ending.returned.inj e
    have : v = x := hr
    subst this
    exact ⟨_, h, fun w hall => hG w hall.facts⟩⟩

theorem Sat.dropApp {ρ : List Loc} {S : Nat → Prop} {H : List Ent} {w : World} (h : Sat ρ S H w) {i : Nat} {T : TypeId} {sz : Nat} {xs : List Value} {a : Option Addr} {n cap : Nat} (hi : H[i]? = some (.app T sz xs a n cap)) :
    ∃ S', Sat ρ S' (H.set i (.fact (SlAt a (n * sz) xs))) w ∧ Ev ρ S H w ρ S' (H.set i (.fact (SlAt a (n * sz) xs))) w := by
  have hilt : i < H.length := (List.getElem?_eq_some_iff.1 hi).1
  have hcase : ∀ (j : Nat) (f : Ent) (b : Nat), (H.set i (.fact (SlAt a (n * sz) xs)))[j]? = some f → entB ρ j f = some b → j ≠ i ∧ H[j]? = some f := by
    intro j f b hf hfb
    by_cases hj : i = j
    · subst hj
      simp [hilt] at hf
      subst hf
      cases hfb
    · rw [List.getElem?_set_ne hj] at hf
      exact ⟨Ne.symm hj, hf⟩
  have hent := h.ent i _ hi
  refine ⟨fun b => S b ∨ a.map Addr.block = some b, ⟨by simp [h.len], fun j f hf => ?_, fun j k f g b hf hg hfb hgb => ?_, fun b ⟨j, f, hf, hfb⟩ hn => ?_, fun b hb => ?_⟩,
    ⟨⟨[], by simp⟩, rfl, rfl, rfl, Nat.le_refl _, fun _ _ _ => rfl, fun b hb => ?_, fun b ⟨j, f, hf, hfb⟩ => .inl ⟨j, f, (hcase j f b hf hfb).2, hfb⟩⟩⟩
  · by_cases hj : i = j
    · subst hj
      simp [hilt] at hf
      subst hf
      refine ⟨appSl hent, fun w' hw => ?_⟩
      rcases hent with ⟨rfl, rfl, rfl, rfl⟩ | ⟨b, rfl, hr⟩
      · rw [Nat.zero_mul]; exact SlAt.nil
      · exact (hr.move (hw b (.inr rfl))).sl
    · rw [List.getElem?_set_ne hj] at hf
      exact (h.ent j f hf).grow fun b hb => .inl hb
  · exact h.inj j k f g b (hcase j f b hf hfb).2 (hcase k g b hg hgb).2 hfb hgb
  · have hjf := hcase j f b hf hfb
    rcases hn with hn | hn
    · exact h.out b ⟨j, f, hjf.2, hfb⟩ hn
    · exact hjf.1 (h.inj j i f _ b hjf.2 hi hfb hn)
  · rcases hb with hb | hb
    · exact h.low b hb
    · exact h.blk_lt hi hb
  · rcases hb with hb | hb
    · exact .inl hb
    · exact .inr (.inl ⟨i, _, hi, hb⟩)

/-- A slice that grew is not written any more: its cells become a fact. -/
theorem SpecH.shut {P : Program} {f : FuncId} {args : List AV} {H : List Ent} {K : Out → List Ent → Prop} (i : Nat) {T : TypeId} {sz : Nat} {xs : List Value} {a : Option Addr} {n cap : Nat} (hi : nthE H i = some (.app T sz xs a n cap))
    (h : setEK H i (.fact (SlAt a (n * sz) xs)) fun H' => SpecH P f args H' K) : SpecH P f args H K := by
  rw [nthE_eq] at hi
  obtain ⟨_, h⟩ := setEK_spec h
  refine ⟨h.ok, fun ρ S w vs hs hr => ?_⟩
  obtain ⟨S', hs', hev⟩ := hs.dropApp hi
  exact (h.run ρ S' w vs hs' hr).mono fun e w' ⟨ρ2, S2, H2, out, a1, a2, a3, a4⟩ => ⟨ρ2, S2, H2, out, a1, hev.trans a2, a3, a4⟩

/-! ### Rows of the call's own handed on -/
theorem Sat.dropRow {ρ : List Loc} {S : Nat → Prop} {H : List Ent} {w : World} (h : Sat ρ S H w) {i : Nat} {T : TypeId} {sz n : Nat} {xs : List Value} (hi : H[i]? = some (.row T sz n (vs xs))) :
    ∃ b cap S', n ≤ cap ∧ Sat ρ S' (H.set i (.fz T sz n xs b cap)) w ∧ Ev ρ S H w ρ S' (H.set i (.fz T sz n xs b cap)) w := by
  have hilt : i < H.length := (List.getElem?_eq_some_iff.1 hi).1
  obtain ⟨l, arr, hl, hb, h1, h2, h3, h4, hr⟩ := h.ent i _ hi
  have hrow : RowF T sz n xs l.b l.cap w := ⟨arr, hb, by rwa [vs_len] at h1, h2, h3, h4, vs_only hr⟩
  have hblk : entB ρ i (.row T sz n (vs xs)) = some l.b := entB_own rfl hl
  refine ⟨l.b, l.cap, fun b => S b ∨ b = l.b, h2, ?_⟩
  have hcase : ∀ (j : Nat) (f : Ent) (b : Nat), (H.set i (.fz T sz n xs l.b l.cap))[j]? = some f → entB ρ j f = some b → j ≠ i ∧ H[j]? = some f := by
    intro j f b hf hfb
    by_cases hj : i = j
    · subst hj
      simp [hilt] at hf
      subst hf
      cases hfb
    · rw [List.getElem?_set_ne hj] at hf
      exact ⟨Ne.symm hj, hf⟩
  refine ⟨⟨by simp [h.len], fun j f hf => ?_, fun j k f g b hf hg hfb hgb => ?_, fun b ⟨j, f, hf, hfb⟩ hn => ?_, fun b hb => ?_⟩,
    ⟨⟨[], by simp⟩, rfl, rfl, rfl, Nat.le_refl _, fun _ _ _ => rfl, fun b hb => ?_, fun b ⟨j, f, hf, hfb⟩ => .inl ⟨j, f, (hcase j f b hf hfb).2, hfb⟩⟩⟩
  · by_cases hj : i = j
    · subst hj
      simp [hilt] at hf
      subst hf
      exact ⟨hl, hrow, fun w' hw => hrow.move (hw _ (.inr rfl))⟩
    · rw [List.getElem?_set_ne hj] at hf
      exact (h.ent j f hf).grow fun b hb => .inl hb
  · exact h.inj j k f g b (hcase j f b hf hfb).2 (hcase k g b hg hgb).2 hfb hgb
  · have hjf := hcase j f b hf hfb
    rcases hn with hn | hn
    · exact h.out b ⟨j, f, hjf.2, hfb⟩ hn
    · exact hjf.1 (h.inj j i f _ b hjf.2 hi hfb (hn ▸ hblk))
  · rcases hb with hb | hb
    · exact h.low b hb
    · subst hb; exact h.blk_lt hi hblk
  · rcases hb with hb | hb
    · exact .inl hb
    · exact .inr (.inl ⟨i, _, hi, hb ▸ hblk⟩)

theorem SpecH.freeze {P : Program} {f : FuncId} {args : List AV} {H : List Ent} {K : Out → List Ent → Prop} (ok : CallOk P f) (i : Nat) {T : TypeId} {sz n : Nat} {cs : List CV} {xs : List Value} (hi : nthE H i = some (.row T sz n cs)) (hx : plains cs = some xs)
    (h : ∀ b cap, n ≤ cap → setEK H i (.fz T sz n xs b cap) fun H' => SpecH P f args H' K) : SpecH P f args H K := by
  have hcs : ∀ {cs : List CV} {xs : List Value}, plains cs = some xs → cs = vs xs := by
    intro cs
    induction cs with
    | nil => intro xs h; simp [plains] at h; subst h; rfl
    | cons c cs ih =>
      intro xs h
      cases c with
      | v x =>
        simp only [plains] at h
        split at h
        · rename_i l hl
          cases h
          rw [ih hl]; rfl
        · cases h
      | _ => simp [plains] at h
  rw [nthE_eq, hcs hx] at hi
  refine ⟨ok, fun ρ S w vs hs hr => ?_⟩
  obtain ⟨b, cap, S', hnc, hs', hev⟩ := hs.dropRow hi
  obtain ⟨_, h⟩ := setEK_spec (h b cap hnc)
  exact (h.run ρ S' w vs hs' hr).mono fun e w' ⟨ρ2, S2, H2, out, a1, a2, a3, a4⟩ => ⟨ρ2, S2, H2, out, a1, hev.trans a2, a3, a4⟩

def plainC (H : List Ent) : CV → Option Value
  | .v x => some x
  | .sl i m => match nthE H i with | some (.fz _ _ _ _ b cap) => some (.slice (some ⟨b, 0, none⟩) m cap) | _ => none
  | _ => none
def plainCs (H : List Ent) : List CV → Option (List Value)
  | [] => some []
  | c :: cs => match plainC H c, plainCs H cs with | some x, some xs => some (x :: xs) | _, _ => none
def plainA (H : List Ent) : AV → Option Value
  | .c c => plainC H c
  | .agg cs => match plainCs H cs with | some xs => some (.agg xs.toArray) | none => none
def plainAs (H : List Ent) : List AV → Option (List Value)
  | [] => some []
  | c :: cs => match plainA H c, plainAs H cs with | some x, some xs => some (x :: xs) | _, _ => none

theorem plainC_rel {ρ : List Loc} {S : Nat → Prop} {H : List Ent} {w : World} (hs : Sat ρ S H w) {c : CV} {x v : Value} (h : plainC H c = some x) (hr : c.rel ρ v) : v = x := by
  cases c with
  | any => cases h
  | v y => cases h; exact hr
  | lp => cases h
  | sl i m =>
    simp only [plainC] at h
    split at h
    · rename_i T sz n xs b cap he
      cases h
      rw [nthE_eq] at he
      obtain ⟨l, hl, rfl⟩ := hr
      have hl2 := (hs.ent i _ he).1
      obtain rfl := Option.some.inj (hl.symm.trans hl2)
      rfl
    · cases h
theorem plainCs_rel {ρ : List Loc} {S : Nat → Prop} {H : List Ent} {w : World} (hs : Sat ρ S H w) : ∀ {cs : List CV} {xs vs : List Value}, plainCs H cs = some xs → RelL ρ cs vs → vs = xs
  | [], xs, [], h, _ => by simp [plainCs] at h; exact h.symm
  | c :: cs, xs, v :: vs, h, hr => by
    simp only [plainCs] at h
    split at h
    · rename_i x ys hx hy
      cases h
      rw [plainC_rel hs hx hr.1, plainCs_rel hs hy hr.2]
    · cases h
  | [], _, _ :: _, _, hr => hr.elim
  | _ :: _, _, [], _, hr => hr.elim
theorem plainA_rel {ρ : List Loc} {S : Nat → Prop} {H : List Ent} {w : World} (hs : Sat ρ S H w) {a : AV} {x v : Value} (h : plainA H a = some x) (hr : a.rel ρ v) : v = x := by
  cases a with
  | c c => exact plainC_rel hs h hr
  | agg cs =>
    simp only [plainA] at h
    split at h
    · rename_i xs hx
      cases h
      obtain ⟨ys, rfl, hy⟩ := hr
      rw [plainCs_rel hs hx hy]
    · cases h
theorem plainAs_rel {ρ : List Loc} {S : Nat → Prop} {H : List Ent} {w : World} (hs : Sat ρ S H w) : ∀ {cs : List AV} {xs vs : List Value}, plainAs H cs = some xs → RelS ρ cs vs → vs = xs
  | [], xs, [], h, _ => by simp [plainAs] at h; exact h.symm
  | c :: cs, xs, v :: vs, h, hr => by
    simp only [plainAs] at h
    split at h
    · rename_i x ys hx hy
      cases h
      rw [plainA_rel hs hx hr.1, plainAs_rel hs hy hr.2]
    · cases h
  | [], _, _ :: _, _, hr => hr.elim
  | _ :: _, _, [], _, hr => hr.elim

/-- Arguments that are rows nobody writes any more are plain values. -/
theorem SpecH.plain {P : Program} {f : FuncId} {args : List AV} {H : List Ent} {K : Out → List Ent → Prop} {xs : List Value} (hx : plainAs H args = some xs) (h : SpecH P f (pvs xs) H K) : SpecH P f args H K :=
  ⟨h.ok, fun ρ S w vs hs hr => by
    obtain rfl := plainAs_rel hs hx hr
    exact h.run ρ S w vs hs (pvs_rel ρ vs)⟩

/-! ### Loads from slices that are facts -/
theorem loadVar_cell {P : Program} {T : TypeId} {w : World} {p : Addr} {x : Value} (hs : shapeT P T = some none) (hc : w.cell? p = some x) : (loadVar T p).run P w = .ok x w := by
  unfold shapeT at hs
  have key : ∀ d, P.underlying T = some d → isAggD d = false → (loadVar T p).run P w = .ok x w := fun d hd hf => by
    unfold loadVar
    rw [Sem.run_bind, run_isAgg hd, hf]
    simp [hc]
  cases hd : P.underlying T with
  | none => rw [hd] at hs; simp at hs
  | some d =>
    rw [hd] at hs
    cases d <;> first
      | exact key _ hd rfl
      | (simp only at hs; split at hs <;> simp at hs)
theorem loadVar_cells {P : Program} {T : TypeId} {n : Nat} {w : World} {p : Addr} {xs : List Value} (hs : shapeT P T = some (some n)) (hl : xs.length = n) (hc : ∀ j v, xs[j]? = some v → w.cell? (p.add j) = some v) : (loadVar T p).run P w = .ok (.agg xs.toArray) w := by
  unfold shapeT at hs
  have key : ∀ d i, P.underlying T = some d → P.info? T = some i → i.size = n → isAggD d = true → (loadVar T p).run P w = .ok (.agg xs.toArray) w := fun d i hd hi hn hf => by
    have hcells := run_loadCells_list (P := P) w p xs hc
    rw [hl] at hcells
    unfold loadVar
    rw [Sem.run_bind, run_isAgg hd, hf]
    simp [sizeOf, typeInfo, hi, hn, hcells]
  cases hd : P.underlying T with
  | none => rw [hd] at hs; simp at hs
  | some d =>
    rw [hd] at hs
    cases d <;> first
      | (simp at hs; done)
      | (simp only at hs
         split at hs
         · rename_i i hi
           simp at hs
           exact key _ i hd hi hs rfl
         · cases hs)

theorem SlAt.cell {a : Option Addr} {k : Nat} {xs : List Value} {w : World} (h : SlAt a k xs w) {q : Nat} {x : Value} (hx : xs[q]? = some x) : w.cell? ((a.getD default).add q) = some x := by
  have : q < k := by rw [← h.1]; exact (List.getElem?_eq_some_iff.1 hx).1
  rw [h.2.2 q this, hx]

/-- A load of one cell of a slice. -/
theorem LdN.one {P : Program} {T : TypeId} {a : Option Addr} {q : Nat} {H : List Ent} {K : AV → Prop} {k : Nat} {xs : List Value} (x : Value) (hT : shapeT P T = some none) (hF : ∀ w, Facts H w → SlAt a k xs w) (hx : xs[q]? = some x)
    (next : forceV x fun x => K (.c (.v x))) : LdN P T (elemAddr a q) H K :=
  ⟨x, fun w hw => loadVar_cell hT ((hF w hw).cell hx), next⟩
/-- A load of a field. -/
theorem LdN.fld {P : Program} {T : TypeId} {a : Option Addr} {q fo : Nat} {H : List Ent} {K : AV → Prop} {k : Nat} {xs : List Value} (x : Value) (hT : shapeT P T = some none) (hF : ∀ w, Facts H w → SlAt a k xs w) (hx : xs[q + fo]? = some x)
    (next : forceV x fun x => K (.c (.v x))) : LdN P T ((elemAddr a q).add fo) H K :=
  ⟨x, fun w hw => loadVar_cell hT (by rw [elemAddr, Addr.add_add]; exact (hF w hw).cell hx), next⟩
/-- A load of a struct. -/
theorem LdN.agg {P : Program} {T : TypeId} {a : Option Addr} {q n : Nat} {H : List Ent} {K : AV → Prop} {k : Nat} {xs : List Value} (ys : List Value) (hT : shapeT P T = some (some n)) (hF : ∀ w, Facts H w → SlAt a k xs w) (hl : ys.length = n)
    (hx : ∀ j, j < n → xs[q + j]? = ys[j]?) (next : K (.c (.v (.agg ys.toArray)))) : LdN P T (elemAddr a q) H K :=
  ⟨.agg ys.toArray, fun w hw => loadVar_cells hT hl fun j v hv => by
    have hj : j < n := by rw [← hl]; exact (List.getElem?_eq_some_iff.1 hv).1
    rw [elemAddr, Addr.add_add]
    exact (hF w hw).cell ((hx j hj).trans hv), next⟩

/-! ### Lists of structs as cells -/
theorem flat_len {α : Type} {g : α → List Value} {m : Nat} (hg : ∀ a, (g a).length = m) : ∀ l : List α, (l.flatMap g).length = l.length * m
  | [] => by simp
  | a :: l => by rw [List.flatMap_cons, List.length_append, hg, flat_len hg l, List.length_cons, Nat.add_mul]; omega
theorem flat_get {α : Type} {g : α → List Value} {m : Nat} (hg : ∀ a, (g a).length = m) : ∀ (l : List α) (i j : Nat), j < m → (l.flatMap g)[i * m + j]? = (l[i]?).bind fun a => (g a)[j]?
  | [], i, j, _ => by simp
  | a :: l, 0, j, hj => by rw [List.flatMap_cons, Nat.zero_mul, Nat.zero_add, List.getElem?_append_left (by rw [hg]; exact hj)]; simp
  | a :: l, i + 1, j, hj => by
    rw [List.flatMap_cons, List.getElem?_append_right (by rw [hg, Nat.add_mul]; omega), hg, show (i + 1) * m + j - m = i * m + j by rw [Nat.add_mul]; omega, flat_get hg l i j hj]
    simp
end Go.AX
