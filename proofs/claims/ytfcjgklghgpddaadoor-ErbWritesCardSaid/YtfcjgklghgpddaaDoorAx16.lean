/-
  AX, sixteenth text: a contract that speaks of some entries holds among others.
-/
import Derived.Test.YtfcjgklghgpddaaDoorAx15
namespace Go.AX

/-- The number of an entry of a part, in the whole: those that the part was given, then those behind the whole's. -/
def rnI : List Nat → Nat → Nat → Nat
  | [], N, j => N + j
  | s :: _, _, 0 => s
  | _ :: σ, N, j + 1 => rnI σ N j
def rnC (σ : List Nat) (N : Nat) : CV → CV
  | .lp i o => .lp (rnI σ N i) o
  | .sl i n => .sl (rnI σ N i) n
  | c => c
def rnCs (σ : List Nat) (N : Nat) : List CV → List CV
  | [] => []
  | c :: cs => rnC σ N c :: rnCs σ N cs
def rnA (σ : List Nat) (N : Nat) : AV → AV
  | .c c => .c (rnC σ N c)
  | .agg cs => .agg (rnCs σ N cs)
def rnS (σ : List Nat) (N : Nat) : List AV → List AV
  | [] => []
  | a :: s => rnA σ N a :: rnS σ N s
def rnE (σ : List Nat) (N : Nat) : Ent → Ent
  | .blk T cs => .blk T (rnCs σ N cs)
  | .row T sz n cs => .row T sz n (rnCs σ N cs)
  | e => e
def rnO (σ : List Nat) (N : Nat) : Out → Out
  | .val a => .val (rnA σ N a)
  | .vals l => .vals (rnS σ N l)
  | .pan c => .pan c
/-- The part's entries put back among the whole's. -/
def mrg (f : Ent → Ent) : List Nat → List Ent → List Ent → (List Ent → Prop) → Prop
  | [], [], H, K => K H
  | [], e :: es, H, K => snocK H (f e) 0 fun H' _ => mrg f [] es H' K
  | s :: σ, e :: es, H, K => setEK H s (f e) fun H' => mrg f σ es H' K
  | _ :: _, [], _, _ => False
/-- The part. -/
def part (σ : List Nat) (N : Nat) (H : List Ent) : List Nat → List Ent → Prop
  | [], [] => True
  | s :: τ, e :: es => nthE H s = some (rnE σ N e) ∧ part σ N H τ es
  | _, _ => False
def ndB : List Nat → Bool
  | [] => true
  | s :: σ => !(σ.any (Nat.beq s)) && ndB σ
theorem ndB_nodup : ∀ {σ : List Nat}, ndB σ = true → σ.Nodup
  | [], _ => List.nodup_nil
  | s :: σ, h => by
    simp only [ndB, Bool.and_eq_true, Bool.not_eq_true', List.any_eq_false] at h
    exact List.nodup_cons.2 ⟨fun hm => h.1 s hm (by simp), ndB_nodup h.2⟩

theorem rnI_get : ∀ {σ : List Nat} {N j s : Nat}, σ[j]? = some s → rnI σ N j = s
  | _ :: _, _, 0, s, h => by simpa [rnI] using h
  | _ :: σ, N, j + 1, s, h => by simpa [rnI] using rnI_get (σ := σ) (N := N) (by simpa using h)
  | [], _, _, _, h => by simp at h
theorem rnI_new : ∀ (σ : List Nat) (N j : Nat), rnI σ N (σ.length + j) = N + j
  | [], N, j => by simp [rnI]
  | _ :: σ, N, j => by
    rw [show (List.length (_ :: σ)) + j = (σ.length + j) + 1 by simp; omega]
    simpa [rnI] using rnI_new σ N j

/-! ### Relations under the renaming -/
section
variable {σ : List Nat} {N : Nat} {ρ ρ' : List Loc}
theorem rnC_rel (h : ∀ j, ρ'[rnI σ N j]? = ρ[j]?) (c : CV) (v : Value) : (rnC σ N c).rel ρ' v ↔ c.rel ρ v := by
  cases c <;> simp only [rnC, CV.rel, h]
theorem rnCs_rel (h : ∀ j, ρ'[rnI σ N j]? = ρ[j]?) : ∀ (cs : List CV) (vs : List Value), RelL ρ' (rnCs σ N cs) vs ↔ RelL ρ cs vs
  | [], [] => Iff.rfl
  | [], _ :: _ => Iff.rfl
  | _ :: _, [] => Iff.rfl
  | c :: cs, v :: vs => by simp only [rnCs, RelL, rnC_rel h, rnCs_rel h cs vs]
theorem rnA_rel (h : ∀ j, ρ'[rnI σ N j]? = ρ[j]?) (a : AV) (v : Value) : (rnA σ N a).rel ρ' v ↔ a.rel ρ v := by
  cases a with
  | c c => exact rnC_rel h c v
  | agg cs => simp only [rnA, AV.rel, rnCs_rel h]
theorem rnS_rel (h : ∀ j, ρ'[rnI σ N j]? = ρ[j]?) : ∀ (cs : List AV) (vs : List Value), RelS ρ' (rnS σ N cs) vs ↔ RelS ρ cs vs
  | [], [] => Iff.rfl
  | [], _ :: _ => Iff.rfl
  | _ :: _, [] => Iff.rfl
  | c :: cs, v :: vs => by simp only [rnS, RelS, rnA_rel h, rnS_rel h cs vs]
theorem rnCs_len : ∀ cs : List CV, (rnCs σ N cs).length = cs.length
  | [] => rfl
  | _ :: cs => by simp [rnCs, rnCs_len cs]
theorem rnE_ok (h : ∀ j, ρ'[rnI σ N j]? = ρ[j]?) (S : Nat → Prop) (w : World) (j : Nat) (e : Ent) : EntOk ρ' S w (rnI σ N j) (rnE σ N e) ↔ EntOk ρ S w j e := by
  cases e <;> simp only [rnE, EntOk, rnCs_rel h, h, rnCs_len]
theorem rnE_blk (h : ∀ j, ρ'[rnI σ N j]? = ρ[j]?) (j : Nat) (e : Ent) : entB ρ' (rnI σ N j) (rnE σ N e) = entB ρ j e := by
  cases e <;> simp only [rnE, entB, h]
theorem EntOk.imm {ρ : List Loc} {S S' : Nat → Prop} {w : World} {i : Nat} {e : Ent} (h : EntOk ρ S w i e) (hs : ∀ b, S b → S' b) : EntOk ρ S' w i e := h.grow hs
end

theorem part_get {σ : List Nat} {N : Nat} {H : List Ent} : ∀ {τ : List Nat} {es : List Ent}, part σ N H τ es → τ.length = es.length ∧ ∀ (j : Nat) (s : Nat) (e : Ent), τ[j]? = some s → es[j]? = some e → H[s]? = some (rnE σ N e)
  | [], [], _ => ⟨rfl, fun j s e h => by simp at h⟩
  | s :: τ, e :: es, h => by
    obtain ⟨h1, h2⟩ := part_get (τ := τ) (es := es) h.2
    refine ⟨by simp [h1], fun j s' e' hs he => ?_⟩
    cases j with
    | zero => simp at hs he; subst hs; subst he; rw [← nthE_eq]; exact h.1
    | succ j => exact h2 j s' e' (by simpa using hs) (by simpa using he)
  | [], _ :: _, h => h.elim
  | _ :: _, [], h => h.elim

theorem mrg_spec (f : Ent → Ent) : ∀ {σ : List Nat} {es H : List Ent} {K : List Ent → Prop}, σ.Nodup → mrg f σ es H K →
    ∃ H', K H' ∧ σ.length ≤ es.length ∧ H'.length = H.length + (es.length - σ.length) ∧ (∀ s ∈ σ, s < H.length) ∧
      (∀ (j : Nat) (e : Ent), es[j]? = some e → H'[rnI σ H.length j]? = some (f e)) ∧ ∀ i, i < H.length → i ∉ σ → H'[i]? = H[i]?
  | [], [], H, K, _, h => ⟨H, h, Nat.le_refl _, by simp, fun _ h => by simp at h, fun j e h => by simp at h, fun _ _ _ => rfl⟩
  | [], e :: es, H, K, _, h => by
    simp only [mrg] at h
    rw [snocK_eq] at h
    obtain ⟨H', hK, _, hl, _, hj, hi⟩ := mrg_spec f (σ := []) List.nodup_nil h
    refine ⟨H', hK, by simp, by simp at hl ⊢; omega, fun _ h => by simp at h, fun j e' he => ?_, fun i hi' _ => ?_⟩
    · cases j with
      | zero =>
        simp at he; subst he
        simp only [rnI, Nat.add_zero]
        rw [hi H.length (by simp) (by simp)]; simp
      | succ j =>
        have := hj j e' (by simpa using he)
        simp only [rnI, List.length_append, List.length_cons, List.length_nil] at this ⊢
        rw [show H.length + (j + 1) = H.length + (0 + 1) + j by omega]; exact this
    · rw [hi i (by simp; omega) (by simp), List.getElem?_append_left hi']
  | s :: σ, e :: es, H, K, hn, h => by
    simp only [mrg] at h
    obtain ⟨hs, h⟩ := setEK_spec h
    obtain ⟨hn1, hn2⟩ := List.nodup_cons.1 hn
    obtain ⟨H', hK, hlen, hl, hlt, hj, hi⟩ := mrg_spec f (σ := σ) hn2 h
    rw [List.length_set] at hl hlt hj hi
    refine ⟨H', hK, by simp; omega, by simp at hl ⊢; omega, fun t ht => ?_, fun j e' he => ?_, fun i hi' hni => ?_⟩
    · cases ht with
      | head => exact hs
      | tail _ ht => exact hlt t ht
    · cases j with
      | zero =>
        simp at he; subst he
        simp only [rnI]
        rw [hi s hs hn1]; simp [hs]
      | succ j => exact hj j e' (by simpa using he)
    · simp only [List.mem_cons, not_or] at hni
      rw [hi i hi' hni.2, List.getElem?_set_ne (Ne.symm hni.1)]
  | _ :: _, [], _, _, _, h => h.elim

/-- A contract that speaks of some entries holds among others. -/
theorem SpecH.at {P : Program} {f : FuncId} {args0 : List AV} {H0 : List Ent} {K0 : Out → List Ent → Prop} (h : SpecH P f args0 H0 K0) (σ : List Nat) {args : List AV} {H : List Ent} {K : Out → List Ent → Prop}
    (hn : ndB σ = true) (hp : part σ H.length H σ H0) (ha : args = rnS σ H.length args0)
    (hk : ∀ out H', K0 out H' → mrg (rnE σ H.length) σ H' H fun G => K (rnO σ H.length out) G) : SpecH P f args H K := by
  subst ha
  refine ⟨h.ok, fun ρ S w vs hs hr => ?_⟩
  have nd := ndB_nodup hn
  obtain ⟨hlen, hget⟩ := part_get hp
  generalize hN : H.length = N at *
  have hρN : ρ.length = N := by rw [hs.len, hN]
  have hσlt : ∀ (j s : Nat), σ[j]? = some s → s < N := fun j s hj => by
    have hj2 : j < H0.length := by rw [← hlen]; exact (List.getElem?_eq_some_iff.1 hj).1
    have := hget j s _ hj (List.getElem?_eq_getElem hj2)
    rw [← hN]; exact (List.getElem?_eq_some_iff.1 this).1
  -- the part's places
  have hρ0 : ∃ ρ0 : List Loc, ρ0.length = σ.length ∧ ∀ (j s : Nat), σ[j]? = some s → ρ0[j]? = ρ[s]? := by
    refine ⟨σ.map fun s => ρ.getD s ⟨0, 0⟩, by simp, fun j s hj => ?_⟩
    have hs' := hσlt j s hj
    rw [List.getElem?_map, hj, Option.map_some, List.getD_eq_getElem?_getD, List.getElem?_eq_getElem (by omega)]
    rfl
  obtain ⟨ρ0, hρl, hρg⟩ := hρ0
  have hre : ∀ j, ρ[rnI σ N j]? = ρ0[j]? := fun j => by
    by_cases hj : j < σ.length
    · have hj' := List.getElem?_eq_getElem hj
      rw [rnI_get hj', ← hρg j _ hj']
    · obtain ⟨k, rfl⟩ : ∃ k, j = σ.length + k := ⟨j - σ.length, by omega⟩
      rw [rnI_new, List.getElem?_eq_none (by omega), List.getElem?_eq_none (by omega)]
  have hidx : ∀ (j : Nat) (e : Ent), H0[j]? = some e → ∃ s, σ[j]? = some s ∧ rnI σ N j = s ∧ H[s]? = some (rnE σ N e) := fun j e he => by
    have hj : j < σ.length := by rw [hlen]; exact (List.getElem?_eq_some_iff.1 he).1
    have hj' := List.getElem?_eq_getElem hj
    exact ⟨_, hj', rnI_get hj', hget j _ e hj' he⟩
  have hsat0 : Sat ρ0 S H0 w := by
    refine ⟨by omega, fun j e he => ?_, fun i j e f b he hf heb hfb => ?_, fun b hb => ?_, hs.low⟩
    · obtain ⟨s, _, h2, h3⟩ := hidx j e he
      have := hs.ent s _ h3
      rw [← h2] at this
      exact (rnE_ok hre S w j e).1 this
    · obtain ⟨s, a1, a2, a3⟩ := hidx i e he
      obtain ⟨t, b1, b2, b3⟩ := hidx j f hf
      have e1 : entB ρ s (rnE σ N e) = some b := by rw [← a2, rnE_blk hre]; exact heb
      have e2 : entB ρ t (rnE σ N f) = some b := by rw [← b2, rnE_blk hre]; exact hfb
      have := hs.inj s t _ _ b a3 b3 e1 e2
      subst this
      have hi' : i < σ.length := (List.getElem?_eq_some_iff.1 a1).1
      exact (List.getElem?_inj hi' nd).1 (a1.trans b1.symm)
    · obtain ⟨j, e, he, heb⟩ := hb
      obtain ⟨s, _, h2, h3⟩ := hidx j e he
      exact hs.out b ⟨s, _, h3, by rw [← h2, rnE_blk hre]; exact heb⟩
  have hmb0 : ∀ b, mb ρ0 H0 b → ∃ s ∈ σ, ∃ e, H[s]? = some e ∧ entB ρ s e = some b := fun b ⟨j, e, he, heb⟩ => by
    obtain ⟨s, h1, h2, h3⟩ := hidx j e he
    exact ⟨s, List.mem_of_getElem? h1, _, h3, by rw [← h2, rnE_blk hre]; exact heb⟩
  refine (h.run ρ0 S w vs hsat0 ((rnS_rel hre _ _).1 hr)).mono fun e w' ⟨ρ0', S', H0', out, hs', hev, hout, hK⟩ => ?_
  obtain ⟨G, hG, hσl, hGl, _, hGj, hGi⟩ := mrg_spec (rnE σ N) nd (hk out H0' hK)
  rw [hN] at hGl hGj hGi
  obtain ⟨t, ht⟩ := hev.pre
  have hl' : H0'.length = σ.length + t.length := by rw [← hs'.len, ht, List.length_append, hρl]
  have hre' : ∀ j, (ρ ++ t)[rnI σ N j]? = ρ0'[j]? := fun j => by
    rw [ht]
    by_cases hj : j < σ.length
    · have hj' := List.getElem?_eq_getElem hj
      have hlt := hσlt j _ hj'
      rw [rnI_get hj', List.getElem?_append_left (by omega), List.getElem?_append_left (by omega), ← hρg j _ hj']
    · obtain ⟨k, rfl⟩ : ∃ k, j = σ.length + k := ⟨j - σ.length, by omega⟩
      rw [rnI_new, List.getElem?_append_right (by omega), List.getElem?_append_right (by omega), hρN, hρl]
      congr 1; omega
  -- an entry of the whole is one of the part's, or one that was
  have hcase : ∀ (i : Nat) (f : Ent), G[i]? = some f → (∃ j e, H0'[j]? = some e ∧ i = rnI σ N j ∧ f = rnE σ N e) ∨ (i < N ∧ i ∉ σ ∧ H[i]? = some f) := fun i f hf => by
    by_cases hi : i < N
    · by_cases him : i ∈ σ
      · obtain ⟨j, hj⟩ := List.getElem?_of_mem him
        have hjl : j < H0'.length := by have := (List.getElem?_eq_some_iff.1 hj).1; omega
        have he := List.getElem?_eq_getElem hjl
        have h1 := hGj j _ he
        rw [rnI_get hj] at h1
        exact .inl ⟨j, _, he, (rnI_get hj).symm, Option.some.inj (hf.symm.trans h1)⟩
      · exact .inr ⟨hi, him, (hGi i hi him) ▸ hf⟩
    · have hil : i < G.length := (List.getElem?_eq_some_iff.1 hf).1
      have hjl : σ.length + (i - N) < H0'.length := by omega
      have he := List.getElem?_eq_getElem hjl
      have h1 := hGj _ _ he
      have hi2 : rnI σ N (σ.length + (i - N)) = i := by rw [rnI_new]; omega
      rw [hi2] at h1
      exact .inl ⟨_, _, he, hi2.symm, Option.some.inj (hf.symm.trans h1)⟩
  have houter : ∀ (i : Nat) (f : Ent) (b : Nat), i < N → i ∉ σ → H[i]? = some f → entB (ρ ++ t) i f = some b → entB ρ i f = some b ∧ b < w.heap.size ∧ ¬ mb ρ0 H0 b := fun i f b hi hni hf hfb => by
    rw [entB_pre _ (by omega)] at hfb
    refine ⟨hfb, hs.blk_lt hf hfb, fun hm => ?_⟩
    obtain ⟨s, hsσ, e', he', heb⟩ := hmb0 b hm
    exact hni (hs.inj i s f e' b hf he' hfb heb ▸ hsσ)
  have hnS : ∀ b, S b → b < w.heap.size ∧ ¬ mb ρ0 H0 b := fun b hb => ⟨hs.low b hb, fun hm => hsat0.out b hm hb⟩
  have hmbG : ∀ b, mb (ρ ++ t) G b → mb ρ H b ∨ w.heap.size ≤ b := fun b ⟨i, f, hf, hfb⟩ => by
    rcases hcase i f hf with ⟨j, e, he, rfl, rfl⟩ | ⟨hi, hni, hf'⟩
    · rw [rnE_blk hre'] at hfb
      rcases hev.own b ⟨j, e, he, hfb⟩ with h1 | h1
      · obtain ⟨s, _, e', he', heb⟩ := hmb0 b h1
        exact .inl ⟨s, e', he', heb⟩
      · exact .inr h1
    · exact .inl ⟨i, f, hf', (houter i f b hi hni hf' hfb).1⟩
  refine ⟨ρ ++ t, fun b => S b ∨ S' b, G, rnO σ N out, ⟨?_, fun i f hf => ?_, fun i j f g b hf hg hfb hgb => ?_, fun b hb hSb => ?_, fun b hb => ?_⟩,
    ⟨⟨t, rfl⟩, hev.os, hev.tape, hev.output, hev.size, fun b hb hn => hev.keep b hb fun hm => ?_, fun b hb => ?_, hmbG⟩, ?_, hG⟩
  · rw [List.length_append, hρN, hGl]; omega
  · rcases hcase i f hf with ⟨j, e, he, rfl, rfl⟩ | ⟨hi, hni, hf'⟩
    · exact ((rnE_ok hre' S' w' j e).2 (hs'.ent j e he)).grow fun b hb => .inr hb
    · refine ((hs.ent i f hf').move t (fun b hb => ?_) fun b hb => ?_).grow fun b hb => .inl hb
      · have := houter i f b hi hni hf' (by rw [entB_pre _ (by omega)]; exact hb)
        exact hev.keep b this.2.1 this.2.2
      · exact hev.keep b (hnS b hb).1 (hnS b hb).2
  · rcases hcase i f hf with ⟨i', e, he, rfl, rfl⟩ | ⟨hi, hni, hf'⟩ <;> rcases hcase j g hg with ⟨j', e', he', rfl, rfl⟩ | ⟨hj, hnj, hg'⟩
    · rw [rnE_blk hre'] at hfb hgb
      rw [hs'.inj i' j' e e' b he he' hfb hgb]
    · rw [rnE_blk hre'] at hfb
      have := houter j g b hj hnj hg' hgb
      rcases hev.own b ⟨i', e, he, hfb⟩ with h1 | h1
      · exact absurd h1 this.2.2
      · omega
    · rw [rnE_blk hre'] at hgb
      have := houter i f b hi hni hf' hfb
      rcases hev.own b ⟨j', e', he', hgb⟩ with h1 | h1
      · exact absurd h1 this.2.2
      · omega
    · exact hs.inj i j f g b hf' hg' (houter i f b hi hni hf' hfb).1 (houter j g b hj hnj hg' hgb).1
  · obtain ⟨i, f, hf, hfb⟩ := hb
    rcases hcase i f hf with ⟨j, e, he, rfl, rfl⟩ | ⟨hi, hni, hf'⟩
    · rw [rnE_blk hre'] at hfb
      rcases hSb with hSb | hSb
      · rcases hev.own b ⟨j, e, he, hfb⟩ with h1 | h1
        · exact (hnS b hSb).2 h1
        · have := (hnS b hSb).1; omega
      · exact hs'.out b ⟨j, e, he, hfb⟩ hSb
    · have h1 := houter i f b hi hni hf' hfb
      rcases hSb with hSb | hSb
      · exact hs.out b ⟨i, f, hf', h1.1⟩ hSb
      · rcases hev.imm b hSb with h2 | h2 | h2
        · exact hs.out b ⟨i, f, hf', h1.1⟩ h2
        · exact h1.2.2 h2
        · omega
  · rcases hb with hb | hb
    · exact Nat.lt_of_lt_of_le (hs.low b hb) hev.size
    · exact hs'.low b hb
  · obtain ⟨s, _, e', he', heb⟩ := hmb0 b hm
    exact hn ⟨s, e', he', heb⟩
  · rcases hb with hb | hb
    · exact .inl hb
    · rcases hev.imm b hb with h1 | h1 | h1
      · exact .inl h1
      · obtain ⟨s, _, e', he', heb⟩ := hmb0 b h1
        exact .inr (.inl ⟨s, e', he', heb⟩)
      · exact .inr (.inr h1)
  · cases out with
    | val a => obtain ⟨v, he, hv⟩ := hout; exact ⟨v, he, (rnA_rel hre' a v).2 hv⟩
    | vals l => obtain ⟨xs, he, hv⟩ := hout; exact ⟨xs, he, (rnS_rel hre' l xs).2 hv⟩
    | pan c => exact hout
end Go.AX
