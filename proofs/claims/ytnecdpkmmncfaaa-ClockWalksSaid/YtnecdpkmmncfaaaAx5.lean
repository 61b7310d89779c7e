/-
  AX, fifth text: operations that make or write memory of the call's own.
-/
import Derived.Test.YtnecdpkmmncfaaaAx4
namespace Go.AX

theorem snocK_eq : ∀ (H : List Ent) (e : Ent) (n : Nat) (K : List Ent → Nat → Prop), snocK H e n K = K (H ++ [e]) (n + H.length)
  | [], e, n, K => by simp [snocK]
  | x :: H, e, n, K => by simp only [snocK, snocK_eq H, List.cons_append, List.length_cons]; rw [show n + 1 + H.length = n + (H.length + 1) by omega]
theorem setEK_spec : ∀ {H : List Ent} {i : Nat} {e : Ent} {K : List Ent → Prop}, setEK H i e K → i < H.length ∧ K (H.set i e)
  | [], _, _, _, h => h.elim
  | _ :: _, 0, _, _, h => ⟨by simp, h⟩
  | _ :: H, i + 1, e, K, h => by
    have := setEK_spec (H := H) (i := i) h
    exact ⟨by simp [this.1], by simpa using this.2⟩

/-- What an operation with an effect gives. -/
def Effs (P : Program) (o : Oper) (s : List AV) (H : List Ent) (av : AV) (H' : List Ent) : Prop :=
  ∀ (ρ : List Loc) (S : Nat → Prop) (w : World) (a : Act), Sat ρ S H w → RelS ρ s a.tmps.toList →
    ∃ r v ρ' w', (execOp a.eval o).run P w = .ok r w' ∧ (r = .value v ∨ r = .skip ∧ v = undef) ∧ Sat ρ' S H' w' ∧ Ev ρ S H w ρ' S H' w' ∧ av.rel ρ' v

theorem Imm.move {S : Nat → Prop} {w w' : World} {F : World → Prop} (h : Imm S w F) (hS : ∀ b, S b → w'.heap[b]? = w.heap[b]?) : Imm S w' F :=
  ⟨h.2 w' hS, fun w'' h2 => h.2 w'' fun b hb => (h2 b hb).trans (hS b hb)⟩

theorem EntOk.move {ρ : List Loc} {S : Nat → Prop} {w w' : World} {i : Nat} {e : Ent} (t : List Loc) (h : EntOk ρ S w i e)
    (hk : ∀ l, ρ[i]? = some l → e.own = true → w'.heap[l.b]? = w.heap[l.b]?) (hS : ∀ b, S b → w'.heap[b]? = w.heap[b]?) : EntOk (ρ ++ t) S w' i e := by
  cases e with
  | blk T cs =>
    obtain ⟨l, arr, hl, hb, hr⟩ := h
    exact ⟨l, arr, get_pre t hl, by rw [hk l hl rfl]; exact hb, RelL_pre t hr⟩
  | row T sz n cs =>
    obtain ⟨l, arr, hl, hb, h1, h2, h3, h4, hr⟩ := h
    exact ⟨l, arr, get_pre t hl, by rw [hk l hl rfl]; exact hb, h1, h2, h3, h4, RelL_pre t hr⟩
  | fact F => exact Imm.move h hS
  | dead => trivial

theorem Sat.own_lt {ρ : List Loc} {S : Nat → Prop} {H : List Ent} {w : World} (h : Sat ρ S H w) {i : Nat} {e : Ent} {l : Loc} (he : H[i]? = some e) (ho : e.own = true) (hl : ρ[i]? = some l) : l.b < w.heap.size := by
  have hk := h.ent i e he
  have key : ∀ (l' : Loc) (arr : Array Value) (T : TypeId), ρ[i]? = some l' → w.heap[l'.b]? = some (.cells arr T (0, 0)) → l.b < w.heap.size := fun l' arr T h1 h2 => by
    have : l = l' := Option.some.inj (hl.symm.trans h1)
    subst this
    exact (Array.getElem?_eq_some_iff.1 h2).1
  cases e with
  | blk T cs => obtain ⟨l', arr, h1, h2, _⟩ := hk; exact key l' arr _ h1 h2
  | row T sz n cs => obtain ⟨l', arr, h1, h2, _⟩ := hk; exact key l' arr _ h1 h2
  | fact F => cases ho
  | dead => cases ho

/-- A new entry in a new block. -/
theorem Sat.snoc {ρ : List Loc} {S : Nat → Prop} {H : List Ent} {w w' : World} {e : Ent} {l : Loc} {ob : Obj} (h : Sat ρ S H w) (hl : l.b = w.heap.size)
    (hh : w'.heap = w.heap.push ob) (ho : w'.os = w.os) (ht : w'.tape = w.tape) (hu : w'.output = w.output) (he : EntOk (ρ ++ [l]) S w' H.length e) :
    Sat (ρ ++ [l]) S (H ++ [e]) w' ∧ Ev ρ S H w (ρ ++ [l]) S (H ++ [e]) w' := by
  have hold : ∀ k, k < w.heap.size → w'.heap[k]? = w.heap[k]? := fun k hk => by rw [hh, Array.getElem?_push, if_neg (by omega)]
  have hsz : w.heap.size < w'.heap.size := by rw [hh]; simp
  have hmb : ∀ b, mb (ρ ++ [l]) (H ++ [e]) b → mb ρ H b ∨ b = w.heap.size := by
    rintro b ⟨i, f, m, hf, hfo, hm, rfl⟩
    by_cases hi : i < H.length
    · rw [List.getElem?_append_left hi] at hf
      rw [List.getElem?_append_left (by rw [h.len]; exact hi)] at hm
      exact .inl ⟨i, f, m, hf, hfo, hm, rfl⟩
    · have hi2 : i = H.length := by
        have := (List.getElem?_eq_some_iff.1 hf).1
        simp at this; omega
      subst hi2
      rw [← h.len] at hm
      simp at hm
      subst hm
      exact .inr hl
  refine ⟨⟨by simp [h.len], ?_, ?_, ?_, ?_⟩, ⟨⟨[l], rfl⟩, ho, ht, hu, by omega, fun b hb _ => hold b hb, fun b hb => .inl hb, fun b hb => ?_⟩⟩
  · intro i f hf
    by_cases hi : i < H.length
    · rw [List.getElem?_append_left hi] at hf
      exact (h.ent i f hf).move [l] (fun m hm hfo => hold _ (h.own_lt hf hfo hm)) fun b hb => hold b (h.low b hb)
    · have hi2 : i = H.length := by
        have := (List.getElem?_eq_some_iff.1 hf).1
        simp at this; omega
      subst hi2
      simp at hf
      subst hf
      exact he
  · intro i j f g m n hf hg hfo hgo hm hn hb
    have hcase : ∀ (i : Nat) (f : Ent) (m : Loc), (H ++ [e])[i]? = some f → f.own = true → (ρ ++ [l])[i]? = some m →
        (i < H.length ∧ H[i]? = some f ∧ ρ[i]? = some m ∧ m.b < w.heap.size) ∨ (i = H.length ∧ m.b = w.heap.size) := by
      intro i f m hf hfo hm
      by_cases hi : i < H.length
      · rw [List.getElem?_append_left hi] at hf
        rw [List.getElem?_append_left (by rw [h.len]; exact hi)] at hm
        exact .inl ⟨hi, hf, hm, h.own_lt hf hfo hm⟩
      · have hi2 : i = H.length := by
          have := (List.getElem?_eq_some_iff.1 hf).1
          simp at this; omega
        subst hi2
        rw [← h.len] at hm
        simp at hm
        subst hm
        exact .inr ⟨rfl, hl⟩
    rcases hcase i f m hf hfo hm with ⟨_, a1, a2, a3⟩ | ⟨a1, a2⟩ <;> rcases hcase j g n hg hgo hn with ⟨_, b1, b2, b3⟩ | ⟨b1, b2⟩
    · exact h.inj i j f g m n a1 b1 hfo hgo a2 b2 hb
    · omega
    · omega
    · omega
  · intro b hb hSb
    rcases hmb b hb with h1 | h1
    · exact h.out b h1 hSb
    · have := h.low b hSb; omega
  · intro b hb
    have := h.low b hb; omega
  · rcases hmb b hb with h1 | h1
    · exact .inl h1
    · exact .inr (by omega)

/-- An entry of the call's own gets other cells, in its own block. -/
theorem Sat.setE {ρ : List Loc} {S : Nat → Prop} {H : List Ent} {w w' : World} {i : Nat} {e e' : Ent} {l : Loc} (h : Sat ρ S H w) (hi : H[i]? = some e) (ho : e.own = true) (hl : ρ[i]? = some l)
    (hsz : w'.heap.size = w.heap.size) (hk : ∀ k, k ≠ l.b → w'.heap[k]? = w.heap[k]?) (hos : w'.os = w.os) (ht : w'.tape = w.tape) (hu : w'.output = w.output)
    (he : EntOk ρ S w' i e') : Sat ρ S (H.set i e') w' ∧ Ev ρ S H w ρ S (H.set i e') w' := by
  have hilt : i < H.length := (List.getElem?_eq_some_iff.1 hi).1
  have hmb : ∀ b, mb ρ (H.set i e') b → mb ρ H b := by
    rintro b ⟨j, f, m, hf, hfo, hm, rfl⟩
    by_cases hj : i = j
    · subst hj
      exact ⟨i, e, m, hi, ho, hm, rfl⟩
    · rw [List.getElem?_set_ne hj] at hf
      exact ⟨j, f, m, hf, hfo, hm, rfl⟩
  have hSl : ∀ b, S b → b ≠ l.b := fun b hb e' => h.out l.b ⟨i, e, l, hi, ho, hl, rfl⟩ (e' ▸ hb)
  refine ⟨⟨by simp [h.len], ?_, ?_, ?_, ?_⟩, ⟨⟨[], by simp⟩, hos, ht, hu, by omega, fun b hb hn => hk b (fun e2 => hn (e2 ▸ ⟨i, e, l, hi, ho, hl, rfl⟩)), fun b hb => .inl hb, fun b hb => .inl (hmb b hb)⟩⟩
  · intro j f hf
    by_cases hj : i = j
    · subst hj
      simp [hilt] at hf
      subst hf
      exact he
    · rw [List.getElem?_set_ne hj] at hf
      have := (h.ent j f hf).move (w' := w') [] (fun m hm hfo => hk _ fun e2 => hj (h.inj i j e f l m hi hf ho hfo hl hm e2.symm)) fun b hb => hk b (hSl b hb)
      simpa using this
  · intro j k f g m n hf hg hfo hgo hm hn hb
    have hcase : ∀ (j : Nat) (f : Ent), (H.set i e')[j]? = some f → f.own = true → ∃ f', H[j]? = some f' ∧ f'.own = true := by
      intro j f hf hfo
      by_cases hj : i = j
      · subst hj; exact ⟨e, hi, ho⟩
      · rw [List.getElem?_set_ne hj] at hf; exact ⟨f, hf, hfo⟩
    obtain ⟨f', hf', hfo'⟩ := hcase j f hf hfo
    obtain ⟨g', hg', hgo'⟩ := hcase k g hg hgo
    exact h.inj j k f' g' m n hf' hg' hfo' hgo' hm hn hb
  · intro b hb; exact h.out b (hmb b hb)
  · intro b hb; rw [hsz]; exact h.low b hb

/-! ### Cells put -/
theorem oneV_eq (v : Value) : oneV v = v.oneCell' := by cases v <;> rfl
theorem oneC_rel {ρ : List Loc} {c : CV} {v : Value} (h : oneC c = true) (hr : c.rel ρ v) : v.oneCell' = true := by
  cases c with
  | any => cases h
  | v x => have : v = x := hr; subst this; rw [← oneV_eq]; exact h
  | lp i off => obtain ⟨l, _, rfl⟩ := hr; rfl
  | sl i n => obtain ⟨l, _, rfl⟩ := hr; rfl
theorem oneCs_rel {ρ : List Loc} : ∀ {cs : List CV} {xs : List Value}, oneCs cs = true → RelL ρ cs xs → ∀ v ∈ xs, v.oneCell' = true
  | [], [], _, _, v, hv => by cases hv
  | c :: cs, x :: xs, h, r, v, hv => by
    simp only [oneCs] at h
    split at h
    · rename_i hc
      cases hv with
      | head => exact oneC_rel hc r.1
      | tail _ hv => exact oneCs_rel h r.2 v hv
    · cases h
  | [], _ :: _, _, r, _, _ => r.elim
  | _ :: _, [], _, r, _, _ => r.elim

theorem setRow_facts (w : World) (g : Nat) (cs : Array Value) : (w.setRow g cs).heap.size = w.heap.size ∧ (∀ k, k ≠ g → (w.setRow g cs).heap[k]? = w.heap[k]?) ∧ (w.setRow g cs).os = w.os ∧ (w.setRow g cs).tape = w.tape ∧ (w.setRow g cs).output = w.output :=
  ⟨size_setRow w g cs, fun k hk => setRow_other w g k cs hk, rfl, rfl, rfl⟩

theorem run_storeVar {P : Program} {T : TypeId} {w : World} {b off : Nat} {arr : Array Value} {E : TypeId} {v : Value} (hb : w.heap[b]? = some (.cells arr E (0, 0)))
    {inf : TypeInfo} (hi : P.info? T = some inf) (hsz : v.cells.size = inf.size) (hfit : off + v.cells.toList.length ≤ arr.size) (hone : ∀ u ∈ v.cells.toList, u.oneCell' = true) :
    (storeVar T ⟨b, off, none⟩ v).run P w = .ok () (w.setRow b (arr.toList.take off ++ v.cells.toList ++ arr.toList.drop (off + v.cells.toList.length)).toArray) := by
  have h1 := run_storeCells_at P b off E v.cells.toList 0 arr w hb (by simpa using hfit) hone
  simp only [Nat.add_zero] at h1
  unfold storeVar
  simp only [sizeOf, typeInfo, Sem.run_bind, run_program, Result.andThen_ok, hi, Sem.run_pure, hsz, ne_eq, not_true_eq_false, if_false]
  exact h1

theorem store_sound {P : Program} {o : Oper} {s : List AV} {H : List Ent} {T : TypeId} {x y : Operand} {i off : Nat} {e e' : Ent} {xs : List CV} {inf : TypeInfo} (ho : o.op = .store T x y)
    (hx : opv s x = .c (.lp i off)) (hy : avCells (opv s y) = some xs) (he : H[i]? = some e) (heo : e.own = true) (hi : P.info? T = some inf) (hone : oneCs xs = true) (hlen : xs.length = inf.size)
    (hput : ∀ (ρ : List Loc) (S : Nat → Prop) (w : World) (l : Loc) (ys : List Value), ρ[i]? = some l → EntOk ρ S w i e → RelL ρ xs ys → ∃ arr E, w.heap[l.b]? = some (.cells arr E (0, 0)) ∧ off + ys.length ≤ arr.size ∧
      ∀ w', w'.heap[l.b]? = some (.cells (arr.toList.take off ++ ys ++ arr.toList.drop (off + ys.length)).toArray E (0, 0)) → EntOk ρ S w' i e') :
    Effs P o s H (.c .any) (H.set i e') := by
  intro ρ S w a hs hr
  have hxr := opv_rel hr x
  rw [hx] at hxr
  obtain ⟨l, hl, hxe⟩ := hxr
  have hyr := avCells_rel hy (opv_rel hr y)
  obtain ⟨arr, E, hb, hfit, hnew⟩ := hput ρ S w l _ hl (hs.ent i e he) hyr
  have hsz : (a.eval y).cells.size = inf.size := by rw [← hlen, RelL_len hyr]; simp
  have hrun := run_storeVar (P := P) hb hi hsz hfit (oneCs_rel hone hyr)
  obtain ⟨f1, f2, f3, f4, f5⟩ := setRow_facts w l.b (arr.toList.take off ++ (a.eval y).cells.toList ++ arr.toList.drop (off + (a.eval y).cells.toList.length)).toArray
  have hS := hs.setE he heo hl f1 f2 f3 f4 f5 (hnew _ (setRow_heap w l.b arr _ E _ hb))
  refine ⟨.skip, undef, ρ, _, ?_, .inr ⟨rfl, rfl⟩, hS.1, hS.2, trivial⟩
  unfold execOp
  simp only [ho, hxe, Instr.storeAt, Instr.sureAddr, Sem.run_bind, Sem.run_pure, Result.andThen_ok, hrun]

theorem new_sound {P : Program} {o : Oper} {s : List AV} {H : List Ent} {T : TypeId} {cs : List CV}
    (h : ∀ (ρ : List Loc) (w : World) (a : Act), RelS ρ s a.tmps.toList → ∃ arr : Array Value, RelL ρ cs arr.toList ∧ (execOp a.eval o).run P w = .ok (.value (.pointer (some ⟨w.heap.size, 0, none⟩))) (w.alloc (.cells arr T))) :
    Effs P o s H (.c (.lp H.length 0)) (H ++ [.blk T cs]) := by
  intro ρ S w a hs hr
  obtain ⟨arr, hrel, hrun⟩ := h ρ w a hr
  have hS := hs.snoc (e := .blk T cs) (l := ⟨w.heap.size, 0⟩) (w' := w.alloc (.cells arr T)) (ob := .cells arr T) rfl rfl rfl rfl rfl
    ⟨⟨w.heap.size, 0⟩, arr, by rw [← hs.len]; simp, heap_alloc_new w _, RelL_pre _ hrel⟩
  exact ⟨_, _, _, _, hrun, .inl rfl, hS.1, hS.2, ⟨⟨w.heap.size, 0⟩, by rw [← hs.len]; simp, rfl⟩⟩
end Go.AX
