/-
  AX, seventh text: append; effK is sound.
-/
import Derived.Test.YtfcjgklghgpddaaDoorAx6
import Derived.Laws.AppendOwn
namespace Go.AX

/-- A row's entry dies, a new one takes its block over. -/
theorem Sat.renew {ρ : List Loc} {S : Nat → Prop} {H : List Ent} {w w' : World} {i : Nat} {e e' : Ent} {l : Loc} (h : Sat ρ S H w) (hi : H[i]? = some e) (ho : e.own = true) (hl : ρ[i]? = some l)
    (hsz : w'.heap.size = w.heap.size) (hk : ∀ k, k ≠ l.b → w'.heap[k]? = w.heap[k]?) (hos : w'.os = w.os) (ht : w'.tape = w.tape) (hu : w'.output = w.output)
    (he : EntOk (ρ ++ [l]) S w' H.length e') (hna : e'.isApp = false := by rfl) : Sat (ρ ++ [l]) S (H.set i .dead ++ [e']) w' ∧ Ev ρ S H w (ρ ++ [l]) S (H.set i .dead ++ [e']) w' := by
  have hilt : i < H.length := (List.getElem?_eq_some_iff.1 hi).1
  have hc : entB ρ i e = some l.b := entB_own ho hl
  have hcase : ∀ (j : Nat) (f : Ent) (b : Nat), (H.set i .dead ++ [e'])[j]? = some f → entB (ρ ++ [l]) j f = some b →
      (j < H.length ∧ j ≠ i ∧ H[j]? = some f ∧ entB ρ j f = some b) ∨ (j = H.length ∧ b = l.b ∧ f = e') := by
    intro j f b hf hfb
    by_cases hj : j < H.length
    · rw [List.getElem?_append_left (by simpa using hj)] at hf
      rw [entB_pre _ (by rw [h.len]; exact hj)] at hfb
      by_cases hji : j = i
      · subst hji
        simp [hilt] at hf
        subst hf
        cases hfb
      · rw [List.getElem?_set_ne (Ne.symm hji)] at hf
        exact .inl ⟨hj, hji, hf, hfb⟩
    · have hj2 : j = H.length := by
        have := (List.getElem?_eq_some_iff.1 hf).1
        simp at this; omega
      subst hj2
      rw [List.getElem?_append_right (by simp)] at hf
      simp at hf
      subst hf
      exact .inr ⟨rfl, entB_le hna (by rw [← h.len]; simp) hfb, rfl⟩
  have hmb : ∀ b, mb (ρ ++ [l]) (H.set i .dead ++ [e']) b → mb ρ H b := by
    rintro b ⟨j, f, hf, hfb⟩
    rcases hcase j f b hf hfb with ⟨_, _, h1, h2⟩ | ⟨_, h1, _⟩
    · exact ⟨j, f, h1, h2⟩
    · subst h1; exact ⟨i, e, hi, hc⟩
  have hSl : ∀ b, S b → b ≠ l.b := fun b hb e' => h.out l.b ⟨i, e, hi, hc⟩ (e' ▸ hb)
  refine ⟨⟨by simp [h.len], ?_, ?_, ?_, ?_⟩, ⟨⟨[l], rfl⟩, hos, ht, hu, by omega, fun b hb hn => hk b (fun e2 => hn (e2 ▸ ⟨i, e, hi, hc⟩)), fun b hb => .inl hb, fun b hb => .inl (hmb b hb)⟩⟩
  · intro j f hf
    by_cases hj : j < H.length
    · rw [List.getElem?_append_left (by simpa using hj)] at hf
      by_cases hji : j = i
      · subst hji
        simp [hilt] at hf
        subst hf
        trivial
      · rw [List.getElem?_set_ne (Ne.symm hji)] at hf
        exact (h.ent j f hf).move [l] (fun b hb => hk _ fun e2 => hji (h.inj j i f e l.b hf hi (e2 ▸ hb) hc)) fun b hb => hk b (hSl b hb)
    · have hj2 : j = H.length := by
        have := (List.getElem?_eq_some_iff.1 hf).1
        simp at this; omega
      subst hj2
      rw [List.getElem?_append_right (by simp)] at hf
      simp at hf
      subst hf
      exact he
  · intro j k f g b hf hg hfb hgb
    rcases hcase j f b hf hfb with ⟨_, a0, a1, a2⟩ | ⟨a1, a2, _⟩ <;> rcases hcase k g b hg hgb with ⟨_, b0, b1, b2⟩ | ⟨b1, b2, _⟩
    · exact h.inj j k f g b a1 b1 a2 b2
    · exact absurd (h.inj j i f e l.b a1 hi (b2 ▸ a2) hc) a0
    · exact absurd (h.inj k i g e l.b b1 hi (a2 ▸ b2) hc) b0
    · omega
  · intro b hb; exact h.out b (hmb b hb)
  · intro b hb; rw [hsz]; exact h.low b hb

theorem execOp_append {P : Program} {o : Oper} {ev : Operand → Value} {w w' : World} {T : TypeId} {x y : Operand} {args : Array Operand} {ts : Array TypeId} {v : Value}
    (ho : o.op = .call { callee := .builtin .append, args := args, argTypes := ts }) (ha : args.toList = [x, y]) (ht : ts.toList = [T, T])
    (h : (Builtin.append_ #[T, T] o.type #[ev x, ev y]).run P w = .ok v w') : (execOp ev o).run P w = .ok (.value v) w' := by
  have e1 : args = #[x, y] := by rw [← Array.toArray_toList (xs := args), ha]
  have e2 : ts = #[T, T] := by rw [← Array.toArray_toList (xs := ts), ht]
  subst e1; subst e2
  unfold execOp
  simp only [ho, resolve, invoke, builtin, Sem.run_bind, Sem.run_pure, Result.andThen_ok, List.map_toArray, List.map_cons, List.map_nil, h]

theorem zeroOk_spec {inf : TypeInfo} (h : zeroOk inf = true) : ∃ z, inf.zero = some z ∧ z.cells.size = inf.size := by
  unfold zeroOk at h
  split at h
  · rename_i z hz; exact ⟨z, hz, Nat.eq_of_beq_eq_true h⟩
  · cases h

theorem RowF.less {T : TypeId} {sz n n0 : Nat} {xs : List Value} {b cap : Nat} {w : World} (h : RowF T sz n0 xs b cap w) (hn : n ≤ n0) : RowF T sz n (xs.take (n * sz)) b cap w := by
  obtain ⟨arr, hb, h1, h2, h3, h4, htk⟩ := h
  have hm : n * sz ≤ n0 * sz := Nat.mul_le_mul_right _ hn
  refine ⟨arr, hb, by rw [List.length_take, h1, Nat.min_eq_left hm], by omega, h3, h4, ?_⟩
  rw [← htk, List.take_take, Nat.min_eq_left hm]
theorem set_getSelf {α : Type} {l : List α} {i : Nat} {x : α} (h : l[i]? = some x) : l.set i x = l := by
  apply List.ext_getElem?
  intro j
  by_cases hj : i = j
  · subst hj
    have := (List.getElem?_eq_some_iff.1 h).1
    rw [List.getElem?_set_self this, h]
  · rw [List.getElem?_set_ne hj]
/-- append of cells that are read at an address. -/
theorem appendM_sound {P : Program} {o : Oper} {s : List AV} {H : List Ent} {T e : TypeId} {inf : TypeInfo} {x y : Operand} {args : Array Operand} {ts : Array TypeId} {m : Nat} {news : List CV} {K : AV → List Ent → Prop} {ax : Option Addr} {n cap : Nat}
    (ho : o.op = .call { callee := .builtin .append, args := args, argTypes := ts }) (ha : args.toList = [x, y]) (ht : ts.toList = [T, T])
    (hu : P.underlying T = some (.slice e)) (hi : P.info? e = some inf) (hz : zeroOk inf = true) (hlen : news.length = m * inf.size)
    {ρ : List Loc} {S : Nat → Prop} {w : World} {a : Act} (hs : Sat ρ S H w) (hr : RelS ρ s a.tmps.toList)
    (hy : ∃ (b : Addr) (c : Nat) (us : List Value), a.eval y = .slice (some b) m c ∧ RelL ρ news us ∧ (∀ j v, us[j]? = some v → w.cell? (b.add j) = some v) ∧ ∀ u ∈ us, u.oneCell' = true)
    (hx : opv s x = .c (.v (.slice ax n cap))) (h : AppM H e inf.size inf.bytes ax n cap m news K) : ∃ av H', K av H' ∧ EffAt P o H av H' ρ S w a := by
  obtain ⟨z, hz1, hz2⟩ := zeroOk_spec hz
  obtain ⟨b, c, us, he, hrel, hcell, hone⟩ := hy
  have hxr := opv_rel hr x
  rw [hx] at hxr
  have hx2 : a.eval x = .slice ax n cap := hxr
  have hul : us.length = m * inf.size := by rw [← RelL_len hrel]; exact hlen
  -- from nothing
  have fromNil : ax = none ∧ n = 0 ∧ cap = 0 → 1 ≤ m ∧ room 0 m inf.bytes ∧ inf.size ≠ 0 → ∃ cap', m ≤ cap' ∧ cap' ≤ maxLen ∧ ∃ w', (Builtin.append_ #[T, T] o.type #[.slice ax n cap, .slice (some b) m c]).run P w = .ok (.slice (some ⟨w.heap.size, 0, none⟩) m cap') w' ∧
      (∃ ob, w'.heap = w.heap.push ob) ∧ w'.os = w.os ∧ w'.tape = w.tape ∧ w'.output = w.output ∧ RowF e inf.size m us w.heap.size cap' w' := by
    rintro ⟨rfl, rfl, rfl⟩ ⟨hm1, ⟨hb1, hb2⟩, _⟩
    rw [Nat.zero_add] at hb1
    have hm : m ≤ maxLen := by simp only [maxLen]; omega
    have hrun := run_append_nil (P := P) w T o.type e inf z hu hi hz1 b m c us hul hcell (by omega) (by omega) (by omega)
    have hge := grownCap_ge w m 0 e
    have hcm : grownCap w m 0 e ≤ maxLen := grownCap_le_maxLen w m 0 e hm
    have hsz : (us.toArray ++ Builtin.zeroCells z.cells (grownCap w m 0 e - m)).size = grownCap w m 0 e * inf.size := by
      simp only [Array.size_append, List.size_toArray, size_zeroCells, hz2, hul, ← Nat.add_mul]
      congr 1; omega
    refine ⟨grownCap w m 0 e, hge, hcm, _, hrun, ⟨_, rfl⟩, rfl, rfl, rfl, _, heap_alloc_new w.drew _, hul, hge, hcm, hsz, ?_⟩
    simp only [Array.toList_append]
    rw [← hul]; exact List.take_left
  cases h with
  | new ys nil hpl hm next =>
    have hus : us = ys := plains_rel hpl hrel
    subst hus
    obtain ⟨cap', h1, h2, w', hrun, ⟨ob, hheap⟩, h4, h5, h6, hrow⟩ := fromNil nil hm
    have hk := next w.heap.size cap' h1 h2
    rw [snocK_eq] at hk
    have hS := hs.snocG (e := .app e inf.size us (some ⟨w.heap.size, 0, none⟩) m cap') (l := ⟨0, 0⟩) (w' := w') (ob := ob) (fun b hb => (Option.some.inj hb).symm) hheap h4 h5 h6 (.inr ⟨_, rfl, hrow⟩)
    exact ⟨_, _, hk, _, _, _, _, execOp_append ho ha ht (by rw [hx2, he]; exact hrun), .inl rfl, hS.1, hS.2, rfl⟩
  | into i e0 ys hent nil hpl hm next =>
    have hus : us = ys := plains_rel hpl hrel
    subst hus
    obtain ⟨cap', h1, h2, w', hrun, ⟨ob, hheap⟩, h4, h5, h6, hrow⟩ := fromNil nil hm
    have hk := next w.heap.size cap' h1 h2
    obtain ⟨hilt, hk⟩ := setEK_spec hk
    rw [nthE_eq] at hent
    have hS : Sat ρ S (H.set i (.app e inf.size us (some ⟨w.heap.size, 0, none⟩) m cap')) w' ∧ Ev ρ S H w ρ S (H.set i (.app e inf.size us (some ⟨w.heap.size, 0, none⟩) m cap')) w' := by
      cases hb0 : entB ρ i e0 with
      | none => exact hs.setNil hent hb0 hheap h4 h5 h6 (fun b hb => (Option.some.inj hb).symm) (.inr ⟨_, rfl, hrow⟩)
      | some c =>
        exact hs.setG hent hb0 (by rw [hheap]; simp) (fun k hk _ => by rw [hheap, Array.getElem?_push, if_neg (by omega)]) h4 h5 h6 (fun b hb => .inr (Nat.le_of_eq (Option.some.inj hb))) (.inr ⟨_, rfl, hrow⟩)
    exact ⟨_, _, hk, _, _, _, _, execOp_append ho ha ht (by rw [hx2, he]; exact hrun), .inl rfl, hS.1, hS.2, rfl⟩
  | grow i xs ys hent hpl hm next =>
    have hus : us = ys := plains_rel hpl hrel
    subst hus
    rw [nthE_eq] at hent
    rcases hs.ent i _ hent with ⟨rfl, rfl, rfl, rfl⟩ | ⟨g, rfl, arr, hb, hxl, hnc, hcm, hasz, htk⟩
    · obtain ⟨cap', h1, h2, w', hrun, ⟨ob, hheap⟩, h4, h5, h6, hrow⟩ := fromNil ⟨rfl, rfl, rfl⟩ hm
      have hk := next w.heap.size cap' (by omega) h2
      obtain ⟨hilt, hk⟩ := setEK_spec hk
      have hS := hs.setNil (e' := .app e inf.size us (some ⟨w.heap.size, 0, none⟩) m cap') hent rfl hheap h4 h5 h6 (fun b hb => (Option.some.inj hb).symm) (.inr ⟨_, rfl, hrow⟩)
      rw [Nat.zero_add] at hk
      exact ⟨_, _, hk, _, _, _, _, execOp_append ho ha ht (by rw [hx2, he]; exact hrun), .inl rfl, hS.1, hS.2, rfl⟩
    · obtain ⟨hm1, ⟨hb1, hb2⟩, hne⟩ := hm
      have hnm : n + m ≤ maxLen := by simp only [maxLen]; omega
      have ht1 : (arr.toList.take (n * inf.size)).length = n * inf.size := by
        simp only [List.length_take, Array.length_toList, hasz]
        exact Nat.min_eq_left (Nat.mul_le_mul_right _ hnc)
      have hnew : (xs ++ us).length = (n + m) * inf.size := by rw [List.length_append, hxl, hul, Nat.add_mul]
      by_cases hroom : n + m ≤ cap
      · have hfit : n * inf.size + us.length ≤ arr.size := by rw [hul, hasz, ← Nat.add_mul]; exact Nat.mul_le_mul_right _ hroom
        have hrun := run_append_room (P := P) w T o.type e inf hu hi g n cap arr hb b m c us hul hcell hone hroom hfit
        obtain ⟨f1, f2, f3, f4, f5⟩ := setRow_facts w g (arr.toList.take (n * inf.size) ++ us ++ arr.toList.drop (n * inf.size + us.length)).toArray
        have hk := next g cap hroom hcm
        obtain ⟨hilt, hk⟩ := setEK_spec hk
        have hS := hs.setG (e' := .app e inf.size (xs ++ us) (some ⟨g, 0, none⟩) (n + m) cap) hent rfl (Nat.le_of_eq f1.symm) (fun k _ hne => f2 k hne) f3 f4 f5 (fun b hb => .inl (Option.some.inj hb).symm)
          (.inr ⟨g, rfl, _, setRow_heap w g arr _ e _ hb, hnew, hroom, hcm, by simp; omega, by
            have : (arr.toList.take (n * inf.size) ++ us ++ arr.toList.drop (n * inf.size + us.length)).toArray.toList.take ((n + m) * inf.size) = arr.toList.take (n * inf.size) ++ us := by
              rw [List.take_append_of_le_length (by simp; rw [Nat.add_mul]; omega)]
              rw [List.take_of_length_le (by simp; rw [Nat.add_mul]; omega)]
            rw [this, htk]⟩)
        exact ⟨_, _, hk, _, _, _, _, execOp_append ho ha ht (by rw [hx2, he]; exact hrun), .inl rfl, hS.1, hS.2, rfl⟩
      · have holds : ∀ j v, (arr.toList.take (n * inf.size))[j]? = some v → w.cell? ((⟨g, 0, none⟩ : Addr).add j) = some v := fun j v hv => by
          rw [add_lit, Nat.zero_add, cell_of_row w g j arr e (0, 0) hb]
          rw [List.getElem?_take] at hv
          split at hv
          · simpa using hv
          · cases hv
        have hrun := run_append_grow (P := P) w T o.type e inf z hu hi hz1 ⟨g, 0, none⟩ n cap _ ht1 holds b m c us hul hcell (by omega) (by omega) (growslice_fits (by omega) hb1)
        have hge := grownCap_ge w (n + m) cap e
        have hgm : grownCap w (n + m) cap e ≤ maxLen := grownCap_le_maxLen w (n + m) cap e hnm
        have hasz2 : ((arr.toList.take (n * inf.size)).toArray ++ us.toArray ++ Builtin.zeroCells z.cells (grownCap w (n + m) cap e - (n + m))).size = grownCap w (n + m) cap e * inf.size := by
          simp only [Array.size_append, List.size_toArray, ht1, size_zeroCells, hz2, hul, ← Nat.add_mul]
          congr 1; omega
        have hk := next w.heap.size (grownCap w (n + m) cap e) hge hgm
        obtain ⟨hilt, hk⟩ := setEK_spec hk
        have hS := hs.setG (e' := .app e inf.size (xs ++ us) (some ⟨w.heap.size, 0, none⟩) (n + m) (grownCap w (n + m) cap e))
          (w' := w.drew.alloc (.cells ((arr.toList.take (n * inf.size)).toArray ++ us.toArray ++ Builtin.zeroCells z.cells (grownCap w (n + m) cap e - (n + m))) e)) hent rfl
          (by show w.heap.size ≤ (w.heap.push _).size; simp) (fun k hk _ => by show (w.heap.push _)[k]? = _; rw [Array.getElem?_push, if_neg (by omega)]) rfl rfl rfl (fun b hb => .inr (Nat.le_of_eq (Option.some.inj hb)))
          (.inr ⟨w.heap.size, rfl, _, heap_alloc_new w.drew _, hnew, hge, hgm, hasz2, by
            have hle : (arr.toList.take (n * inf.size) ++ us).length = (n + m) * inf.size := by rw [List.length_append, ht1, hul, Nat.add_mul]
            simp only [Array.toList_append]
            rw [← hle, ← htk]; exact List.take_left⟩)
        exact ⟨_, _, hk, _, _, _, _, execOp_append ho ha ht (by rw [hx2, he]; exact hrun), .inl rfl, hS.1, hS.2, rfl⟩

/-- append of cells that are read at an address. -/
theorem appendTo_sound {P : Program} {o : Oper} {s : List AV} {H : List Ent} {T e : TypeId} {inf : TypeInfo} {x y : Operand} {args : Array Operand} {ts : Array TypeId} {m : Nat} {news : List CV} {K : AV → List Ent → Prop}
    (ho : o.op = .call { callee := .builtin .append, args := args, argTypes := ts }) (ha : args.toList = [x, y]) (ht : ts.toList = [T, T])
    (hu : P.underlying T = some (.slice e)) (hi : P.info? e = some inf) (hz : zeroOk inf = true) (hlen : news.length = m * inf.size)
    {ρ : List Loc} {S : Nat → Prop} {w : World} {a : Act} (hs : Sat ρ S H w) (hr : RelS ρ s a.tmps.toList)
    (hy : ∃ (b : Addr) (c : Nat) (us : List Value), a.eval y = .slice (some b) m c ∧ RelL ρ news us ∧ (∀ j v, us[j]? = some v → w.cell? (b.add j) = some v) ∧ ∀ u ∈ us, u.oneCell' = true)
    (h : appendTo e inf H (opv s x) m news K) : ∃ av H', K av H' ∧ EffAt P o H av H' ρ S w a := by
  obtain ⟨z, hz1, hz2⟩ := zeroOk_spec hz
  unfold appendTo at h
  split at h
  · rename_i ax n cap hx
    cases h with
    | base h => exact appendM_sound ho ha ht hu hi hz hlen hs hr hy hx h
    | cut i n0 xs0 hent hn next =>
      obtain ⟨hilt, h⟩ := setEK_spec next
      rw [nthE_eq] at hent
      have hS : Sat ρ S (H.set i (.app e inf.size (xs0.take (n * inf.size)) ax n cap)) w ∧ Ev ρ S H w ρ S (H.set i (.app e inf.size (xs0.take (n * inf.size)) ax n cap)) w := by
        rcases hs.ent i _ hent with ⟨rfl, rfl, rfl, rfl⟩ | ⟨g, rfl, hrow⟩
        · have : n = 0 := by omega
          subst this
          have e1 : H.set i (.app e inf.size (List.take (0 * inf.size) []) none 0 0) = H := by
            rw [List.take_nil]
            exact set_getSelf hent
          rw [e1]
          exact ⟨hs, Ev.refl _ _ _ _⟩
        · exact hs.setG (w' := w) (e' := .app e inf.size (xs0.take (n * inf.size)) (some ⟨g, 0, none⟩) n cap) hent rfl (Nat.le_refl _) (fun _ _ _ => rfl) rfl rfl rfl (fun b hb => .inl (Option.some.inj hb).symm) (.inr ⟨g, rfl, hrow.less hn⟩)
      obtain ⟨av, H', hK, r, v, ρ', w', h1, h2, h3, h4, h5⟩ := appendM_sound ho ha ht hu hi hz hlen hS.1 hr hy hx h
      exact ⟨av, H', hK, r, v, ρ', w', h1, h2, h3, hS.2.trans h4, h5⟩
  · rename_i i n hx
    rw [nthE_eq] at h
    split at h
    · rename_i T' sz k cs hent
      split at h
      · rename_i hT
        have hT' := Nat.eq_of_beq_eq_true hT
        subst hT'
        obtain ⟨⟨hnk, hsz, hm1, ⟨hb1, hb2⟩, hne⟩, h⟩ := h
        subst hnk; subst hsz
        obtain ⟨hilt, h⟩ := setEK_spec h
        rw [snocK_eq] at h
        refine ⟨_, _, h, ?_⟩
        obtain ⟨b, c, us, he, hrel, hcell, hone⟩ := hy
        have hxr := opv_rel hr x
        rw [hx] at hxr
        obtain ⟨l, hl, hxe⟩ := hxr
        obtain ⟨l', arr, hl', hb, hcl, hnc, hcm, hasz, hcr⟩ := hs.ent i _ hent
        have : l' = l := Option.some.inj (hl'.symm.trans hl)
        subst this
        have hul : us.length = m * inf.size := by rw [← RelL_len hrel]; exact hlen
        have hnm : n + m ≤ maxLen := by simp only [maxLen]; omega
        have hnew : (cs ++ news).length = (n + m) * inf.size := by rw [List.length_append, hcl, hlen, Nat.add_mul]
        by_cases hroom : n + m ≤ l'.cap
        · have hfit : n * inf.size + us.length ≤ arr.size := by rw [hul, hasz, ← Nat.add_mul]; exact Nat.mul_le_mul_right _ hroom
          have hrun := run_append_room (P := P) w T o.type T' inf hu hi l'.b n l'.cap arr hb b m c us hul hcell hone hroom hfit
          obtain ⟨f1, f2, f3, f4, f5⟩ := setRow_facts w l'.b (arr.toList.take (n * inf.size) ++ us ++ arr.toList.drop (n * inf.size + us.length)).toArray
          have hS := hs.renew (e' := .row T' inf.size (n + m) (cs ++ news)) hent rfl hl f1 f2 f3 f4 f5
            ⟨l', _, by rw [← hs.len]; simp, setRow_heap w l'.b arr _ T' _ hb, hnew, hroom, hcm, by simp; omega, by
              have ht1 : (arr.toList.take (n * inf.size)).length = n * inf.size := by simp; omega
              have : (arr.toList.take (n * inf.size) ++ us ++ arr.toList.drop (n * inf.size + us.length)).toArray.toList.take ((n + m) * inf.size) = arr.toList.take (n * inf.size) ++ us := by
                rw [List.take_append_of_le_length (by simp; rw [Nat.add_mul]; omega)]
                rw [List.take_of_length_le (by simp; rw [Nat.add_mul]; omega)]
              rw [this]; exact RelL_append (RelL_pre _ hcr) (RelL_pre _ hrel)⟩
          exact ⟨_, _, _, _, execOp_append ho ha ht (by rw [hxe, he]; exact hrun), .inl rfl, hS.1, hS.2, ⟨l', by simp [← hs.len], rfl⟩⟩
        · have holds : ∀ j v, (arr.toList.take (n * inf.size))[j]? = some v → w.cell? ((⟨l'.b, 0, none⟩ : Addr).add j) = some v := fun j v hv => by
            rw [add_lit, Nat.zero_add, cell_of_row w l'.b j arr T' (0, 0) hb]
            rw [List.getElem?_take] at hv
            split at hv
            · simpa using hv
            · cases hv
          have ht1 : (arr.toList.take (n * inf.size)).length = n * inf.size := by
            simp only [List.length_take, Array.length_toList, hasz]
            exact Nat.min_eq_left (Nat.mul_le_mul_right _ hnc)
          have hrun := run_append_grow (P := P) w T o.type T' inf z hu hi hz1 ⟨l'.b, 0, none⟩ n l'.cap _ ht1 holds b m c us hul hcell (by omega) (by omega) (growslice_fits (by omega) hb1)
          have hge := grownCap_ge w (n + m) l'.cap T'
          have hgm : grownCap w (n + m) l'.cap T' ≤ maxLen := grownCap_le_maxLen w (n + m) l'.cap T' hnm
          have hk := hs.setE (w' := w) (e' := .dead) hent rfl hl rfl (fun _ _ => rfl) rfl rfl rfl trivial
          have hasz2 : ((arr.toList.take (n * inf.size)).toArray ++ us.toArray ++ Builtin.zeroCells z.cells (grownCap w (n + m) l'.cap T' - (n + m))).size = grownCap w (n + m) l'.cap T' * inf.size := by
            simp only [Array.size_append, List.size_toArray, ht1, size_zeroCells, hz2, hul, ← Nat.add_mul]
            congr 1; omega
          have hS := hk.1.snoc (e := .row T' inf.size (n + m) (cs ++ news)) (l := ⟨w.heap.size, grownCap w (n + m) l'.cap T'⟩)
            (w' := w.drew.alloc (.cells ((arr.toList.take (n * inf.size)).toArray ++ us.toArray ++ Builtin.zeroCells z.cells (grownCap w (n + m) l'.cap T' - (n + m))) T')) rfl rfl rfl rfl rfl
            ⟨⟨w.heap.size, grownCap w (n + m) l'.cap T'⟩, _, by rw [List.length_set, ← hs.len]; simp, heap_alloc_new w.drew _, hnew, hge, hgm, hasz2, by
              have : ((arr.toList.take (n * inf.size)).toArray ++ us.toArray ++ Builtin.zeroCells z.cells (grownCap w (n + m) l'.cap T' - (n + m))).toList.take ((n + m) * inf.size) = arr.toList.take (n * inf.size) ++ us := by
                have hle : (arr.toList.take (n * inf.size) ++ us).length = (n + m) * inf.size := by rw [List.length_append, ht1, hul, Nat.add_mul]
                simp only [Array.toList_append]
                rw [← hle]; exact List.take_left
              rw [this]; exact RelL_append (RelL_pre _ hcr) (RelL_pre _ hrel)⟩
          exact ⟨_, _, _, _, execOp_append ho ha ht (by rw [hxe, he]; exact hrun), .inl rfl, hS.1, hk.2.trans hS.2, ⟨⟨w.heap.size, grownCap w (n + m) l'.cap T'⟩, by simp [← hs.len], rfl⟩⟩
      · exact h.elim
    · exact h.elim
  · exact h.elim
theorem vs_len : ∀ xs : List Value, (vs xs).length = xs.length
  | [] => rfl
  | _ :: xs => by simp [vs, vs_len xs]
theorem fz_row2 {ρ : List Loc} {S : Nat → Prop} {w : World} {i : Nat} {T : TypeId} {sz n : Nat} {xs : List Value} {b cap : Nat} (h : EntOk ρ S w i (.fz T sz n xs b cap)) :
    ∃ l arr, ρ[i]? = some l ∧ w.heap[l.b]? = some (.cells arr T (0, 0)) ∧ (vs xs).length = n * sz ∧ n ≤ l.cap ∧ l.cap ≤ maxLen ∧ arr.size = l.cap * sz ∧ RelL ρ (vs xs) (arr.toList.take (n * sz)) := by
  obtain ⟨hl, ⟨arr, hb, h1, h2, h3, h4, htk⟩, _⟩ := h
  exact ⟨⟨b, cap⟩, arr, hl, hb, by rw [vs_len, h1], h2, h3, h4, by rw [htk]; exact vs_rel ρ xs⟩


theorem appendK_sound {P : Program} {o : Oper} {s : List AV} {H : List Ent} {T : TypeId} {x y : Operand} {args : Array Operand} {ts : Array TypeId} {K : AV → List Ent → Prop}
    (ho : o.op = .call { callee := .builtin .append, args := args, argTypes := ts }) (ha : args.toList = [x, y]) (ht : ts.toList = [T, T])
    (h : appendK P T H (opv s x) (opv s y) K) : EffW P o s H K := by
  intro ρ S w a hs hr
  unfold appendK at h
  split at h
  · rename_i e hu
    split at h
    · rename_i inf hi
      split at h
      · rename_i hz
        split at h
        · rename_i j m hy
          have row : ∀ {T' : TypeId} {sz k : Nat} {cs : List CV}, (∃ l arr, ρ[j]? = some l ∧ w.heap[l.b]? = some (.cells arr T' (0, 0)) ∧ cs.length = k * sz ∧ k ≤ l.cap ∧ l.cap ≤ maxLen ∧ arr.size = l.cap * sz ∧ RelL ρ cs (arr.toList.take (k * sz))) →
              Nd (m ≤ k ∧ sz = inf.size ∧ oneCs (cs.take (m * sz)) = true) (appendTo e inf H (opv s x) m (cs.take (m * sz)) K) → ∃ av H', K av H' ∧ EffAt P o H av H' ρ S w a := by
            rintro T' sz k cs ⟨l, arr, hl, hb, hcl, hkc, hcm, hasz, hrel⟩ ⟨⟨hmk, hsz, hone⟩, h⟩
            subst hsz
            have hl2 : (cs.take (m * inf.size)).length = m * inf.size := by
              simp only [List.length_take, hcl]
              exact Nat.min_eq_left (Nat.mul_le_mul_right _ hmk)
            refine appendTo_sound ho ha ht hu hi hz hl2 hs hr ?_ h
            have hyr := opv_rel hr y
            rw [hy] at hyr
            obtain ⟨l', hl', hye⟩ := hyr
            have : l' = l := Option.some.inj (hl'.symm.trans hl)
            subst this
            have hr2 := RelL_take (m * inf.size) hrel
            have hr3 : RelL ρ (cs.take (m * inf.size)) (arr.toList.take (m * inf.size)) := by
              rw [List.take_take, Nat.min_eq_left (Nat.mul_le_mul_right _ hmk)] at hr2
              exact hr2
            refine ⟨⟨l'.b, 0, none⟩, l'.cap, _, hye, hr3, fun i v hv => ?_, oneCs_rel hone hr3⟩
            rw [add_lit, Nat.zero_add, cell_of_row w l'.b i arr T' (0, 0) hb]
            rw [List.getElem?_take] at hv
            split at hv
            · simpa using hv
            · cases hv
          rw [nthE_eq] at h
          split at h
          · rename_i T' sz k cs hent
            exact row (hs.ent j _ hent) h
          · rename_i T' sz k xs0 b0 cap0 hent0
            exact row (fz_row2 (hs.ent j _ hent0)) h
          · exact h.elim
        · rename_i a0 m c hy
          by_cases hm0 : Nat.beq m 0 = true
          · have h1 := brd_true h hm0
            simp only [forceA_eq] at h1
            have hm : m = 0 := Nat.eq_of_beq_eq_true hm0
            subst hm
            have hyv : ∀ (ρ : List Loc) (ac : Act), RelS ρ s ac.tmps.toList → ac.eval y = .slice a0 0 c := fun ρ ac hr => by
              have := opv_rel hr y
              rw [hy] at this
              exact this
            have hz0 : ∀ (w : World), (Builtin.firstCells inf.size 0 (.slice a0 0 c)).run P w = .ok #[] w := fun w => by
              cases a0 with
              | none => simp [Builtin.firstCells]
              | some p => simp [Builtin.firstCells, loadCells, loadCellsFrom]
            have run0 : ∀ (w : World) (base : Option Addr) (n cap : Nat), n ≤ cap → (Builtin.append_ #[T, T] o.type #[.slice base n cap, .slice a0 0 c]).run P w = .ok (.slice base n cap) w := fun w base n cap hn => by
              cases base with
              | none => simp [Builtin.append_, run_underlying hu, sizeOf, typeInfo, hi, Builtin.lenOf, hn, hz0]
              | some p => simp [Builtin.append_, run_underlying hu, sizeOf, typeInfo, hi, Builtin.lenOf, hn, hz0, storeCells]
            unfold appendZ at h1
            split at h1
            · rename_i base n cap hx
              obtain ⟨hn, h1⟩ := h1
              refine ⟨_, _, h1, ?_⟩
              have hxr := opv_rel hr x
              rw [hx] at hxr
              have hx2 : a.eval x = .slice base n cap := hxr
              exact ⟨_, _, _, _, execOp_append ho ha ht (by rw [hx2, hyv ρ a hr]; exact run0 w base n cap hn), .inl rfl, hs, Ev.refl _ _ _ _, by rw [hx]; rfl⟩
            · rename_i i n hx
              rw [nthE_eq] at h1
              split at h1
              · rename_i T' sz k cs hent
                obtain ⟨hn, h1⟩ := h1
                refine ⟨_, _, h1, ?_⟩
                have hxr := opv_rel hr x
                rw [hx] at hxr
                obtain ⟨l, hl, hxe⟩ := hxr
                obtain ⟨l', arr, hl', hb, hcl, hkc, _⟩ := hs.ent i _ hent
                have : l' = l := Option.some.inj (hl'.symm.trans hl)
                subst this
                exact ⟨_, _, _, _, execOp_append ho ha ht (by rw [hxe, hyv ρ a hr]; exact run0 w _ n l'.cap (by omega)), .inl rfl, hs, Ev.refl _ _ _ _, by rw [hx]; exact ⟨l', hl', rfl⟩⟩
              · exact h1.elim
            · exact h1.elim
          · have h1 := brd_false h (by cases hq : Nat.beq m 0 with | true => exact absurd hq hm0 | false => rfl)
            obtain ⟨hsome, news, hlen, hone, hok, h1⟩ := h1
            cases a0 with
            | none => cases hsome
            | some p =>
              have hvl : (vs news).length = m * inf.size := by rw [vs_eq, List.length_map]; exact hlen
              refine appendTo_sound ho ha ht hu hi hz hvl hs hr ?_ h1
              have hyr := opv_rel hr y
              rw [hy] at hyr
              exact ⟨p, c, news, hyr, RelL_vs ρ news, fun j v hv => hok w hs.facts j v hv, fun u hu => by rw [← oneV_eq]; exact hone u hu⟩
        · exact h.elim
      · exact h.elim
    · exact h.elim
  · exact h.elim

theorem fillC_len {place : Nat → Option (Nat × Nat)} {s : List AV} : ∀ {parts : List (Nat × Operand)} {cs cs' : List CV}, fillC place s parts cs = some cs' → cs'.length = cs.length
  | [], cs, cs', h => by simp only [fillC, Option.some.injEq] at h; rw [h]
  | (i, x) :: rest, cs, cs', h => by
    simp only [fillC] at h
    split at h
    · split at h
      · rename_i cs1 _ hput
        rw [fillC_len h]
        exact putC_len hput
      · cases h
    · cases h
  where putC_len : ∀ {cs xs cs' : List CV} {off : Nat}, putC cs off xs = some cs' → cs'.length = cs.length
  | cs, [], cs', 0, h => by cases cs <;> (simp [putC] at h; subst h; rfl)
  | c :: cs, x :: xs, cs', 0, h => by
    simp only [putC] at h
    split at h
    · rename_i l hl; cases h; simp [putC_len hl]
    · cases h
  | c :: cs, xs, cs', off + 1, h => by
    simp only [putC] at h
    split at h
    · rename_i l hl; cases h; simp [putC_len hl]
    · cases h
  | [], _ :: _, _, 0, h => by simp [putC] at h
  | [], _, _, _ + 1, h => by simp [putC] at h

theorem eff_sound {P : Program} {o : Oper} {s : List AV} {H : List Ent} {K : AV → List Ent → Prop} (h : effK P o s H K) : EffW P o s H K := by
  unfold effK at h
  split at h
  · rename_i T ho
    split at h
    · rename_i i hi
      split at h
      · rename_i z hz
        rw [snocK_eq, Nat.zero_add] at h
        exact (alloc_sound ho hi hz).w h
      · exact h.elim
    · exact h.elim
  · rename_i T x ho
    split at h
    · rename_i cs hx
      rw [snocK_eq, Nat.zero_add] at h
      exact (box_sound ho hx).w h
    · exact h.elim
  · rename_i T x y ho
    split at h
    · rename_i i off hx
      rw [nthE_eq] at h
      split at h
      · rename_i inf xs T' cs hi hy hent
        split at h
        · rename_i cs' hone hlen hput
          obtain ⟨_, h⟩ := setEK_spec h
          refine (store_sound ho hx hy hent rfl hi hone (Nat.eq_of_beq_eq_true hlen) fun ρ S w l ys hl hent hys => ?_).w h
          obtain ⟨l', arr, hl', hb, hrel⟩ := hent
          have : l' = l := Option.some.inj (hl'.symm.trans hl)
          subst this
          obtain ⟨hfit, hnew⟩ := putC_rel hput hrel hys
          exact ⟨arr, T', hb, by simpa using hfit, fun w' hw' => ⟨l', _, hl', hw', by simpa using hnew⟩⟩
        · exact h.elim
      · rename_i inf xs T' sz n cs hi hy hent
        split at h
        · rename_i hone hlen
          obtain ⟨hfit, h⟩ := h
          obtain ⟨_, h⟩ := setEK_spec h
          refine (store_sound ho hx hy hent rfl hi hone (Nat.eq_of_beq_eq_true hlen) fun ρ S w l ys hl hent hys => ?_).w h
          obtain ⟨l', arr, hl', hb, hcl, hnc, hcm, hasz, hrel⟩ := hent
          have : l' = l := Option.some.inj (hl'.symm.trans hl)
          subst this
          have hyl := RelL_len hys
          have hnl : n * sz ≤ arr.size := by rw [hasz]; exact Nat.mul_le_mul_right _ hnc
          refine ⟨arr, T', hb, by omega, fun w' hw' => ⟨l', _, hl', hw', ?_, hnc, hcm, ?_, ?_⟩⟩
          · simp; omega
          · simp; omega
          · have e : (arr.toList.take off ++ ys ++ arr.toList.drop (off + ys.length)).toArray.toList.take (n * sz) = (arr.toList.take (n * sz)).take off ++ ys ++ (arr.toList.take (n * sz)).drop (off + ys.length) := by
              apply List.ext_getElem?
              intro j
              simp only [List.getElem?_take, List.getElem?_append, List.getElem?_drop, List.length_append, List.length_take, Array.length_toList]
              by_cases h1 : j < off
              · have : min off arr.size = off := by omega
                have h2 : min off (min (n * sz) arr.size) = off := by omega
                simp [this, h2, h1, show j < off + ys.length by omega, show j < n * sz by omega]
              · have : min off arr.size = off := by omega
                have h2 : min off (min (n * sz) arr.size) = off := by omega
                by_cases h3 : j < off + ys.length
                · simp [this, h2, h1, h3, show j < n * sz by omega]
                · simp only [this, h2, h1, h3, if_false]
                  by_cases h4 : j < n * sz
                  · simp [h4, show off + ys.length + (j - (off + ys.length)) = j by omega]
                  · simp [h4]; omega
            rw [e]
            have := RelL_append (RelL_append (RelL_take off hrel) hys) (RelL_drop (off + xs.length) hrel)
            rw [hyl] at this ⊢
            exact this
        · exact h.elim
      · exact h.elim
    · exact h
    · exact h.elim
  · rename_i T len parts ho
    split at h
    · rename_i e hu
      split at h
      · rename_i inf hi
        split at h
        · rename_i z hz
          split at h
          · rename_i cs hb hf
            rw [snocK_eq, Nat.zero_add] at h
            have hcl : cs.length = len * inf.size := by rw [fillC_len hf, anys_len]
            have hlm : len ≤ maxLen := by have := Nat.le_of_ble_eq_true hb; simp only [maxLen]; omega
            exact (buildSlice_sound ho hu hi hz hb hlm hf hcl).w h
          · exact h.elim
        · exact h.elim
      · exact h.elim
    · exact h.elim
  · rename_i args ts ho
    split at h
    · rename_i T U x y hts hxy
      split at h
      · rename_i hTU
        have hTU' := Nat.eq_of_beq_eq_true hTU
        subst hTU'
        obtain ⟨x', y', hargs, rfl, rfl⟩ := opvs_two hxy
        exact appendK_sound ho hargs hts h
      · exact h
    · exact h.elim
  · exact h
end Go.AX
