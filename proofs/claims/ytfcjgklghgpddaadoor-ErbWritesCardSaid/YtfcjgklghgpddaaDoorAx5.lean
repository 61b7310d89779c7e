/-
  AX, fifth text: operations that make or write memory of the call's own.
-/
import Derived.Test.YtfcjgklghgpddaaDoorAx4
namespace Go.AX

theorem snocK_eq : ∀ (H : List Ent) (e : Ent) (n : Nat) (K : List Ent → Nat → Prop), snocK H e n K = K (H ++ [e]) (n + H.length)
  | [], e, n, K => by simp [snocK]
  | x :: H, e, n, K => by simp only [snocK, snocK_eq H, List.cons_append, List.length_cons]; rw [show n + 1 + H.length = n + (H.length + 1) by omega]
theorem setEK_spec : ∀ {H : List Ent} {i : Nat} {e : Ent} {K : List Ent → Prop}, setEK H i e K → i < H.length ∧ K (H.set i e)
  | [], _, _, _, h => h.elim
  | _ :: _, 0, _, _, h => ⟨by simp, h⟩
  | _ :: H, i + 1, e, K, h => by
    have := setEK_spec (H := H) (i := i) h
    exact ⟨by simp [this.1], by simpa using this.2⟩

/-- What an operation with an effect gives. -/
def EffAt (P : Program) (o : Oper) (H : List Ent) (av : AV) (H' : List Ent) (ρ : List Loc) (S : Nat → Prop) (w : World) (a : Act) : Prop :=
  ∃ r v ρ' w', (execOp a.eval o).run P w = .ok r w' ∧ (r = .value v ∨ r = .skip ∧ v = undef) ∧ Sat ρ' S H' w' ∧ Ev ρ S H w ρ' S H' w' ∧ av.rel ρ' v
def Effs (P : Program) (o : Oper) (s : List AV) (H : List Ent) (av : AV) (H' : List Ent) : Prop :=
  ∀ (ρ : List Loc) (S : Nat → Prop) (w : World) (a : Act), Sat ρ S H w → RelS ρ s a.tmps.toList → EffAt P o H av H' ρ S w a
def EffW (P : Program) (o : Oper) (s : List AV) (H : List Ent) (K : AV → List Ent → Prop) : Prop :=
  ∀ (ρ : List Loc) (S : Nat → Prop) (w : World) (a : Act), Sat ρ S H w → RelS ρ s a.tmps.toList → ∃ av H', K av H' ∧ EffAt P o H av H' ρ S w a
theorem Effs.w {P : Program} {o : Oper} {s : List AV} {H : List Ent} {av : AV} {H' : List Ent} {K : AV → List Ent → Prop} (h : Effs P o s H av H') (hk : K av H') : EffW P o s H K :=
  fun ρ S w a hs hr => ⟨av, H', hk, h ρ S w a hs hr⟩

/-- An operation that makes or writes memory of the call's own. -/
def effK (P : Program) (o : Oper) (s : List AV) (H : List Ent) (K : AV → List Ent → Prop) : Prop :=
  match o.op with
  | .alloc T => match P.info? T with
    | some i => match i.zero with
      | some z => snocK H (.blk T (cellsV z)) 0 fun H' n => K (.c (.lp n 0)) H'
      | none => False
    | none => False
  | .box T x => match avCells (opv s x) with
    | some cs => snocK H (.blk T cs) 0 fun H' n => K (.c (.lp n 0)) H'
    | none => False
  | .store T a x => match opv s a with
    | .c (.lp i off) => match P.info? T, avCells (opv s x), nthE H i with
      | some inf, some xs, some (.blk T' cs) => match oneCs xs, Nat.beq xs.length inf.size, putC cs off xs with
          | true, true, some cs' => setEK H i (.blk T' cs') fun H' => K (.c .any) H'
          | _, _, _ => False
      | some inf, some xs, some (.row T' sz n cs) => match oneCs xs, Nat.beq xs.length inf.size with
          | true, true => Nd (off + xs.length ≤ cs.length) (setEK H i (.row T' sz n (cs.take off ++ xs ++ cs.drop (off + xs.length))) fun H' => K (.c .any) H')
          | _, _ => False
      | _, _, _ => False
    | .c (.v (.pointer (some _))) => EffW P o s H K
    | _ => False
  | .buildSlice T len parts => match P.underlying T with
    | some (.slice e) => match P.info? e with
      | some inf => match inf.zero with
        | some _ => match Nat.ble (len + len * inf.size) 10000, fillC (fun i => some (i * inf.size, inf.size)) s parts.toList (anys (len * inf.size)) with
          | true, some cs => snocK H (.row e inf.size len cs) 0 fun H' n => K (.c (.sl n len)) H'
          | _, _ => False
        | none => False
      | none => False
    | _ => False
  | .call { callee := .builtin .append, args := args, argTypes := ts } => match ts.toList, opvs s args.toList with
    | [T, U], [x, y] => match Nat.beq T U with | true => appendK P T H x y K | false => EffW P o s H K
    | _, _ => False
  | _ => EffW P o s H K

theorem Imm.move {S : Nat → Prop} {w w' : World} {F : World → Prop} (h : Imm S w F) (hS : ∀ b, S b → w'.heap[b]? = w.heap[b]?) : Imm S w' F :=
  ⟨h.2 w' hS, fun w'' h2 => h.2 w'' fun b hb => (h2 b hb).trans (hS b hb)⟩

theorem RowF.move {T : TypeId} {sz n : Nat} {xs : List Value} {b cap : Nat} {w w' : World} (h : RowF T sz n xs b cap w) (hb : w'.heap[b]? = w.heap[b]?) : RowF T sz n xs b cap w' := by
  obtain ⟨arr, h1, h2⟩ := h
  exact ⟨arr, hb.trans h1, h2⟩
theorem EntOk.move {ρ : List Loc} {S : Nat → Prop} {w w' : World} {i : Nat} {e : Ent} (t : List Loc) (h : EntOk ρ S w i e)
    (hk : ∀ b, entB ρ i e = some b → w'.heap[b]? = w.heap[b]?) (hS : ∀ b, S b → w'.heap[b]? = w.heap[b]?) : EntOk (ρ ++ t) S w' i e := by
  cases e with
  | blk T cs =>
    obtain ⟨l, arr, hl, hb, hr⟩ := h
    exact ⟨l, arr, get_pre t hl, by rw [hk l.b (entB_own rfl hl)]; exact hb, RelL_pre t hr⟩
  | row T sz n cs =>
    obtain ⟨l, arr, hl, hb, h1, h2, h3, h4, hr⟩ := h
    exact ⟨l, arr, get_pre t hl, by rw [hk l.b (entB_own rfl hl)]; exact hb, h1, h2, h3, h4, RelL_pre t hr⟩
  | fact F => exact Imm.move h hS
  | fz T sz n xs b cap => exact ⟨get_pre t h.1, Imm.move h.2 hS⟩
  | app T sz xs a n cap =>
    rcases h with h | ⟨b, rfl, h⟩
    · exact .inl h
    · exact .inr ⟨b, rfl, h.move (hk b rfl)⟩
  | mp b es c => exact (hk b rfl).trans h
  | dead => trivial

theorem entB_pre {ρ : List Loc} {i : Nat} {e : Ent} (t : List Loc) (hi : i < ρ.length) : entB (ρ ++ t) i e = entB ρ i e := by
  cases e <;> simp [entB, List.getElem?_append_left hi]

theorem Sat.blk_lt {ρ : List Loc} {S : Nat → Prop} {H : List Ent} {w : World} (h : Sat ρ S H w) {i : Nat} {e : Ent} {b : Nat} (he : H[i]? = some e) (hb : entB ρ i e = some b) : b < w.heap.size := by
  have hk := h.ent i e he
  have key : ∀ (l : Loc) (arr : Array Value) (T : TypeId), ρ[i]? = some l → e.own = true → w.heap[l.b]? = some (.cells arr T (0, 0)) → b < w.heap.size := fun l arr T h1 h0 h2 => by
    rw [entB_own h0 h1] at hb
    obtain rfl := Option.some.inj hb
    exact (Array.getElem?_eq_some_iff.1 h2).1
  cases e with
  | blk T cs => obtain ⟨l', arr, h1, h2, _⟩ := hk; exact key l' arr _ h1 rfl h2
  | row T sz n cs => obtain ⟨l', arr, h1, h2, _⟩ := hk; exact key l' arr _ h1 rfl h2
  | fact F => cases hb
  | fz => cases hb
  | app T sz xs a n cap =>
    rcases hk with ⟨rfl, _⟩ | ⟨b', rfl, arr, h2, _⟩
    · cases hb
    · obtain rfl := Option.some.inj hb
      exact (Array.getElem?_eq_some_iff.1 h2).1
  | mp b' es c =>
    obtain rfl := Option.some.inj hb
    exact (Array.getElem?_eq_some_iff.1 hk).1
  | dead => cases hb
theorem Sat.own_lt {ρ : List Loc} {S : Nat → Prop} {H : List Ent} {w : World} (h : Sat ρ S H w) {i : Nat} {e : Ent} {l : Loc} (he : H[i]? = some e) (ho : e.own = true) (hl : ρ[i]? = some l) : l.b < w.heap.size :=
  h.blk_lt he (entB_own ho hl)

/-- A new entry in a new block. -/
theorem Sat.snocG {ρ : List Loc} {S : Nat → Prop} {H : List Ent} {w w' : World} {e : Ent} {l : Loc} {ob : Obj} (h : Sat ρ S H w) (hl : ∀ b, entB (ρ ++ [l]) H.length e = some b → b = w.heap.size)
    (hh : w'.heap = w.heap.push ob) (ho : w'.os = w.os) (ht : w'.tape = w.tape) (hu : w'.output = w.output) (he : EntOk (ρ ++ [l]) S w' H.length e) :
    Sat (ρ ++ [l]) S (H ++ [e]) w' ∧ Ev ρ S H w (ρ ++ [l]) S (H ++ [e]) w' := by
  have hold : ∀ k, k < w.heap.size → w'.heap[k]? = w.heap[k]? := fun k hk => by rw [hh, Array.getElem?_push, if_neg (by omega)]
  have hsz : w.heap.size < w'.heap.size := by rw [hh]; simp
  have hcase : ∀ (i : Nat) (f : Ent) (b : Nat), (H ++ [e])[i]? = some f → entB (ρ ++ [l]) i f = some b → (i < H.length ∧ H[i]? = some f ∧ entB ρ i f = some b) ∨ (i = H.length ∧ b = w.heap.size) := by
    intro i f b hf hfb
    by_cases hi : i < H.length
    · rw [List.getElem?_append_left hi] at hf
      rw [entB_pre _ (by rw [h.len]; exact hi)] at hfb
      exact .inl ⟨hi, hf, hfb⟩
    · have hi2 : i = H.length := by
        have := (List.getElem?_eq_some_iff.1 hf).1
        simp at this; omega
      subst hi2
      simp at hf
      subst hf
      exact .inr ⟨rfl, hl b hfb⟩
  have hmb : ∀ b, mb (ρ ++ [l]) (H ++ [e]) b → mb ρ H b ∨ b = w.heap.size := by
    rintro b ⟨i, f, hf, hfb⟩
    rcases hcase i f b hf hfb with ⟨_, h1, h2⟩ | ⟨_, h2⟩
    · exact .inl ⟨i, f, h1, h2⟩
    · exact .inr h2
  refine ⟨⟨by simp [h.len], ?_, ?_, ?_, ?_⟩, ⟨⟨[l], rfl⟩, ho, ht, hu, by omega, fun b hb _ => hold b hb, fun b hb => .inl hb, fun b hb => ?_⟩⟩
  · intro i f hf
    by_cases hi : i < H.length
    · rw [List.getElem?_append_left hi] at hf
      exact (h.ent i f hf).move [l] (fun b hb => hold _ (h.blk_lt hf hb)) fun b hb => hold b (h.low b hb)
    · have hi2 : i = H.length := by
        have := (List.getElem?_eq_some_iff.1 hf).1
        simp at this; omega
      subst hi2
      simp at hf
      subst hf
      exact he
  · intro i j f g b hf hg hfb hgb
    rcases hcase i f b hf hfb with ⟨_, a1, a2⟩ | ⟨a1, a2⟩ <;> rcases hcase j g b hg hgb with ⟨_, b1, b2⟩ | ⟨b1, b2⟩
    · exact h.inj i j f g b a1 b1 a2 b2
    · have := h.blk_lt a1 a2; omega
    · have := h.blk_lt b1 b2; omega
    · omega
  · intro b hb hSb
    rcases hmb b hb with h1 | h1
    · exact h.out b h1 hSb
    · have := h.low b hSb; omega
  · intro b hb
    have := h.low b hb; omega
  · rcases hmb b hb with h1 | h1
    · exact .inl h1
    · exact .inr (by omega)
theorem Sat.snoc {ρ : List Loc} {S : Nat → Prop} {H : List Ent} {w w' : World} {e : Ent} {l : Loc} {ob : Obj} (h : Sat ρ S H w) (hl : l.b = w.heap.size)
    (hh : w'.heap = w.heap.push ob) (ho : w'.os = w.os) (ht : w'.tape = w.tape) (hu : w'.output = w.output) (he : EntOk (ρ ++ [l]) S w' H.length e) (hna : e.isApp = false := by rfl) :
    Sat (ρ ++ [l]) S (H ++ [e]) w' ∧ Ev ρ S H w (ρ ++ [l]) S (H ++ [e]) w' := by
  refine h.snocG (fun b hb => ?_) hh ho ht hu he
  exact (entB_le hna (l := l) (by rw [← h.len]; simp) hb).trans hl

/-- An entry of the call's own gets another one's place, in its own block. -/
theorem Sat.setG {ρ : List Loc} {S : Nat → Prop} {H : List Ent} {w w' : World} {i : Nat} {e e' : Ent} {c : Nat} (h : Sat ρ S H w) (hi : H[i]? = some e) (hc : entB ρ i e = some c)
    (hsz : w.heap.size ≤ w'.heap.size) (hk : ∀ k, k < w.heap.size → k ≠ c → w'.heap[k]? = w.heap[k]?) (hos : w'.os = w.os) (ht : w'.tape = w.tape) (hu : w'.output = w.output)
    (hb' : ∀ b, entB ρ i e' = some b → b = c ∨ w.heap.size ≤ b) (he : EntOk ρ S w' i e') : Sat ρ S (H.set i e') w' ∧ Ev ρ S H w ρ S (H.set i e') w' := by
  have hilt : i < H.length := (List.getElem?_eq_some_iff.1 hi).1
  have hcl := h.blk_lt hi hc
  have hcase : ∀ (j : Nat) (f : Ent) (b : Nat), (H.set i e')[j]? = some f → entB ρ j f = some b → (j ≠ i ∧ H[j]? = some f) ∨ (j = i ∧ (b = c ∨ w.heap.size ≤ b)) := by
    intro j f b hf hfb
    by_cases hj : i = j
    · subst hj
      simp [hilt] at hf
      subst hf
      exact .inr ⟨rfl, hb' b hfb⟩
    · rw [List.getElem?_set_ne hj] at hf
      exact .inl ⟨Ne.symm hj, hf⟩
  have hSl : ∀ b, S b → b ≠ c := fun b hb e' => h.out c ⟨i, e, hi, hc⟩ (e' ▸ hb)
  refine ⟨⟨by simp [h.len], ?_, ?_, ?_, ?_⟩, ⟨⟨[], by simp⟩, hos, ht, hu, hsz, fun b hb hn => hk b hb (fun e2 => hn (e2 ▸ ⟨i, e, hi, hc⟩)), fun b hb => .inl hb, fun b hb => ?_⟩⟩
  · intro j f hf
    by_cases hj : i = j
    · subst hj
      simp [hilt] at hf
      subst hf
      exact he
    · rw [List.getElem?_set_ne hj] at hf
      have := (h.ent j f hf).move (w' := w') [] (fun b hb => hk _ (h.blk_lt hf hb) fun e2 => hj (h.inj i j e f c hi hf hc (e2 ▸ hb))) fun b hb => hk b (h.low b hb) (hSl b hb)
      simpa using this
  · intro j k f g b hf hg hfb hgb
    rcases hcase j f b hf hfb with ⟨a1, a2⟩ | ⟨a1, a2⟩ <;> rcases hcase k g b hg hgb with ⟨b1, b2⟩ | ⟨b1, b2⟩
    · exact h.inj j k f g b a2 b2 hfb hgb
    · rcases b2 with b2 | b2
      · exact absurd (h.inj j i f e b a2 hi hfb (b2 ▸ hc)) a1
      · have := h.blk_lt a2 hfb; omega
    · rcases a2 with a2 | a2
      · exact absurd (h.inj k i g e b b2 hi hgb (a2 ▸ hc)) b1
      · have := h.blk_lt b2 hgb; omega
    · omega
  · rintro b ⟨j, f, hf, hfb⟩ hSb
    rcases hcase j f b hf hfb with ⟨_, a2⟩ | ⟨_, a2 | a2⟩
    · exact h.out b ⟨j, f, a2, hfb⟩ hSb
    · exact hSl b hSb a2
    · have := h.low b hSb; omega
  · intro b hb; exact Nat.lt_of_lt_of_le (h.low b hb) hsz
  · obtain ⟨j, f, hf, hfb⟩ := hb
    rcases hcase j f b hf hfb with ⟨_, a2⟩ | ⟨_, a2 | a2⟩
    · exact .inl ⟨j, f, a2, hfb⟩
    · exact .inl ⟨i, e, hi, a2 ▸ hc⟩
    · exact .inr a2

/-- An entry that had no block gets a new one. -/
theorem Sat.setNil {ρ : List Loc} {S : Nat → Prop} {H : List Ent} {w w' : World} {i : Nat} {e e' : Ent} {ob : Obj} (h : Sat ρ S H w) (hi : H[i]? = some e) (_ : entB ρ i e = none)
    (hh : w'.heap = w.heap.push ob) (hos : w'.os = w.os) (ht : w'.tape = w.tape) (hu : w'.output = w.output)
    (hb' : ∀ b, entB ρ i e' = some b → b = w.heap.size) (he : EntOk ρ S w' i e') : Sat ρ S (H.set i e') w' ∧ Ev ρ S H w ρ S (H.set i e') w' := by
  have hold : ∀ k, k < w.heap.size → w'.heap[k]? = w.heap[k]? := fun k hk => by rw [hh, Array.getElem?_push, if_neg (by omega)]
  have hsz : w.heap.size < w'.heap.size := by rw [hh]; simp
  have hilt : i < H.length := (List.getElem?_eq_some_iff.1 hi).1
  have hcase : ∀ (j : Nat) (f : Ent) (b : Nat), (H.set i e')[j]? = some f → entB ρ j f = some b → (j ≠ i ∧ H[j]? = some f) ∨ (j = i ∧ b = w.heap.size) := by
    intro j f b hf hfb
    by_cases hj : i = j
    · subst hj
      simp [hilt] at hf
      subst hf
      exact .inr ⟨rfl, hb' b hfb⟩
    · rw [List.getElem?_set_ne hj] at hf
      exact .inl ⟨Ne.symm hj, hf⟩
  refine ⟨⟨by simp [h.len], ?_, ?_, ?_, ?_⟩, ⟨⟨[], by simp⟩, hos, ht, hu, by omega, fun b hb hn => hold b hb, fun b hb => .inl hb, fun b hb => ?_⟩⟩
  · intro j f hf
    by_cases hj : i = j
    · subst hj
      simp [hilt] at hf
      subst hf
      exact he
    · rw [List.getElem?_set_ne hj] at hf
      have := (h.ent j f hf).move (w' := w') [] (fun b hb => hold _ (h.blk_lt hf hb)) fun b hb => hold b (h.low b hb)
      simpa using this
  · intro j k f g b hf hg hfb hgb
    rcases hcase j f b hf hfb with ⟨a1, a2⟩ | ⟨a1, a2⟩ <;> rcases hcase k g b hg hgb with ⟨b1, b2⟩ | ⟨b1, b2⟩
    · exact h.inj j k f g b a2 b2 hfb hgb
    · have := h.blk_lt a2 hfb; omega
    · have := h.blk_lt b2 hgb; omega
    · omega
  · rintro b ⟨j, f, hf, hfb⟩ hSb
    rcases hcase j f b hf hfb with ⟨_, a2⟩ | ⟨_, a2⟩
    · exact h.out b ⟨j, f, a2, hfb⟩ hSb
    · have := h.low b hSb; omega
  · intro b hb; have := h.low b hb; omega
  · obtain ⟨j, f, hf, hfb⟩ := hb
    rcases hcase j f b hf hfb with ⟨_, a2⟩ | ⟨_, a2⟩
    · exact .inl ⟨j, f, a2, hfb⟩
    · exact .inr (by omega)

/-- An entry of the call's own gets other cells, in its own block. -/
theorem Sat.setE {ρ : List Loc} {S : Nat → Prop} {H : List Ent} {w w' : World} {i : Nat} {e e' : Ent} {l : Loc} (h : Sat ρ S H w) (hi : H[i]? = some e) (ho : e.own = true) (hl : ρ[i]? = some l)
    (hsz : w'.heap.size = w.heap.size) (hk : ∀ k, k ≠ l.b → w'.heap[k]? = w.heap[k]?) (hos : w'.os = w.os) (ht : w'.tape = w.tape) (hu : w'.output = w.output)
    (he : EntOk ρ S w' i e') (hna : e'.isApp = false := by rfl) : Sat ρ S (H.set i e') w' ∧ Ev ρ S H w ρ S (H.set i e') w' := by
  refine h.setG hi (entB_own ho hl) (Nat.le_of_eq hsz.symm) (fun k _ hne => hk k hne) hos ht hu (fun b hb => .inl (entB_le hna hl hb)) he

/-! ### Cells put -/
theorem oneV_eq (v : Value) : oneV v = v.oneCell' := by cases v <;> rfl
theorem oneC_rel {ρ : List Loc} {c : CV} {v : Value} (h : oneC c = true) (hr : c.rel ρ v) : v.oneCell' = true := by
  cases c with
  | any => cases h
  | v x => have : v = x := hr; subst this; rw [← oneV_eq]; exact h
  | lp i off => obtain ⟨l, _, rfl⟩ := hr; rfl
  | sl i n => obtain ⟨l, _, rfl⟩ := hr; rfl
theorem oneCs_rel {ρ : List Loc} : ∀ {cs : List CV} {xs : List Value}, oneCs cs = true → RelL ρ cs xs → ∀ v ∈ xs, v.oneCell' = true
  | [], [], _, _, v, hv => by cases hv
  | c :: cs, x :: xs, h, r, v, hv => by
    simp only [oneCs] at h
    split at h
    · rename_i hc
      cases hv with
      | head => exact oneC_rel hc r.1
      | tail _ hv => exact oneCs_rel h r.2 v hv
    · cases h
  | [], _ :: _, _, r, _, _ => r.elim
  | _ :: _, [], _, r, _, _ => r.elim

theorem setRow_facts (w : World) (g : Nat) (cs : Array Value) : (w.setRow g cs).heap.size = w.heap.size ∧ (∀ k, k ≠ g → (w.setRow g cs).heap[k]? = w.heap[k]?) ∧ (w.setRow g cs).os = w.os ∧ (w.setRow g cs).tape = w.tape ∧ (w.setRow g cs).output = w.output :=
  ⟨size_setRow w g cs, fun k hk => setRow_other w g k cs hk, rfl, rfl, rfl⟩

theorem run_storeVar {P : Program} {T : TypeId} {w : World} {b off : Nat} {arr : Array Value} {E : TypeId} {v : Value} (hb : w.heap[b]? = some (.cells arr E (0, 0)))
    {inf : TypeInfo} (hi : P.info? T = some inf) (hsz : v.cells.size = inf.size) (hfit : off + v.cells.toList.length ≤ arr.size) (hone : ∀ u ∈ v.cells.toList, u.oneCell' = true) :
    (storeVar T ⟨b, off, none⟩ v).run P w = .ok () (w.setRow b (arr.toList.take off ++ v.cells.toList ++ arr.toList.drop (off + v.cells.toList.length)).toArray) := by
  have h1 := run_storeCells_at P b off E v.cells.toList 0 arr w hb (by simpa using hfit) hone
  simp only [Nat.add_zero] at h1
  unfold storeVar
  simp only [sizeOf, typeInfo, Sem.run_bind, run_program, Result.andThen_ok, hi, Sem.run_pure, hsz, ne_eq, not_true_eq_false, if_false]
  exact h1

theorem store_sound {P : Program} {o : Oper} {s : List AV} {H : List Ent} {T : TypeId} {x y : Operand} {i off : Nat} {e e' : Ent} {xs : List CV} {inf : TypeInfo} (ho : o.op = .store T x y)
    (hx : opv s x = .c (.lp i off)) (hy : avCells (opv s y) = some xs) (he : H[i]? = some e) (heo : e.own = true) (hi : P.info? T = some inf) (hone : oneCs xs = true) (hlen : xs.length = inf.size)
    (hput : ∀ (ρ : List Loc) (S : Nat → Prop) (w : World) (l : Loc) (ys : List Value), ρ[i]? = some l → EntOk ρ S w i e → RelL ρ xs ys → ∃ arr E, w.heap[l.b]? = some (.cells arr E (0, 0)) ∧ off + ys.length ≤ arr.size ∧
      ∀ w', w'.heap[l.b]? = some (.cells (arr.toList.take off ++ ys ++ arr.toList.drop (off + ys.length)).toArray E (0, 0)) → EntOk ρ S w' i e') (hna : e'.isApp = false := by rfl) :
    Effs P o s H (.c .any) (H.set i e') := by
  intro ρ S w a hs hr
  have hxr := opv_rel hr x
  rw [hx] at hxr
  obtain ⟨l, hl, hxe⟩ := hxr
  have hyr := avCells_rel hy (opv_rel hr y)
  obtain ⟨arr, E, hb, hfit, hnew⟩ := hput ρ S w l _ hl (hs.ent i e he) hyr
  have hsz : (a.eval y).cells.size = inf.size := by rw [← hlen, RelL_len hyr]; simp
  have hrun := run_storeVar (P := P) hb hi hsz hfit (oneCs_rel hone hyr)
  obtain ⟨f1, f2, f3, f4, f5⟩ := setRow_facts w l.b (arr.toList.take off ++ (a.eval y).cells.toList ++ arr.toList.drop (off + (a.eval y).cells.toList.length)).toArray
  have hS := hs.setE he heo hl f1 f2 f3 f4 f5 (hnew _ (setRow_heap w l.b arr _ E _ hb)) hna
  refine ⟨.skip, undef, ρ, _, ?_, .inr ⟨rfl, rfl⟩, hS.1, hS.2, trivial⟩
  unfold execOp
  simp only [ho, hxe, Instr.storeAt, Instr.sureAddr, Sem.run_bind, Sem.run_pure, Result.andThen_ok, hrun]

theorem new_sound {P : Program} {o : Oper} {s : List AV} {H : List Ent} {T : TypeId} {cs : List CV}
    (h : ∀ (ρ : List Loc) (w : World) (a : Act), RelS ρ s a.tmps.toList → ∃ arr : Array Value, RelL ρ cs arr.toList ∧ (execOp a.eval o).run P w = .ok (.value (.pointer (some ⟨w.heap.size, 0, none⟩))) (w.alloc (.cells arr T))) :
    Effs P o s H (.c (.lp H.length 0)) (H ++ [.blk T cs]) := by
  intro ρ S w a hs hr
  obtain ⟨arr, hrel, hrun⟩ := h ρ w a hr
  have hS := hs.snoc (e := .blk T cs) (l := ⟨w.heap.size, 0⟩) (w' := w.alloc (.cells arr T)) (ob := .cells arr T) rfl rfl rfl rfl rfl
    ⟨⟨w.heap.size, 0⟩, arr, by rw [← hs.len]; simp, heap_alloc_new w _, RelL_pre _ hrel⟩
  exact ⟨_, _, _, _, hrun, .inl rfl, hS.1, hS.2, ⟨⟨w.heap.size, 0⟩, by rw [← hs.len]; simp, rfl⟩⟩
end Go.AX
