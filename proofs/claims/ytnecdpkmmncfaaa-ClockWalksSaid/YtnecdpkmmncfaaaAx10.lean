/-
  AX, tenth text: regions with a tail; code; functions.
-/
import Derived.Test.YtnecdpkmmncfaaaAx9
namespace Go.AX

section tail
variable {P : Program} {ops : Array Oper} {md : Region.Mode} {C : World → Prop}

/-- Operations of the head alone come up, each quiet in the class, till L holds. -/
def HeadQ (P : Program) (md : Region.Mode) (ops : Array Oper) (C : World → Prop) (n : Nat) (L : Array Bool → Act → Prop) : Nat → Array Bool → Act → Prop
  | 0, ls, a => L ls a
  | f + 1, ls, a => Region.ready md ops ls ≠ [] ∧ ∀ i ∈ Region.ready md ops ls, i < n ∧ qOp P ops C i (HeadQ P md ops C n L f (ls.setIfInBounds i true)) a

theorem any_of_headQ {n g : Nat} {L : Array Bool → Act → Prop} {Q : Exit → Act → World → Prop} (hL : ∀ ls a w, C w → L ls a → wpAny P md ops Q g ls a w) :
    ∀ (f : Nat) (ls : Array Bool) (a : Act) (w : World), C w → HeadQ P md ops C n L f ls a → wpAny P md ops Q (f + g) ls a w
  | 0, ls, a, w, hw, h => by rw [Nat.zero_add]; exact hL _ _ _ hw h
  | f + 1, ls, a, w, hw, h => by
    rw [Nat.add_right_comm]
    exact ⟨fun h0 => absurd h0 h.1, fun i hi => wpOp_of_qOp hw (fun a' w' hw' h' => any_of_headQ hL f _ a' w' hw' h') (h.2 i hi).2⟩

theorem headQ_take {n i : Nat} {oi : Oper} {v : Value} {L : Array Bool → Act → Prop} (hi : ops[i]? = some oi) (hsel : ∀ (j : Nat) (o : Oper) cs b, ops[j]? = some o → o.op ≠ .select cs b)
    (hs : Region.sinkB md ops n = true) (hc : Region.chainB md ops n = true) (hn : n < ops.size) (hin : i < n) (hdone : ∀ ls a, L ls a → ∀ j ∈ Region.ready md ops ls, n ≤ j) :
    ∀ (f : Nat) (ls : Array Bool) (a : Act), HeadInv md ops n ls →
      (∀ j oj, ops[j]? = some oj → j ≠ i → ls.getD j true = false → (∀ e ∈ oj.after, Region.binds md e = true → e.on ≠ i) → oi.apart ops oj = true) →
      i ∈ Region.ready md ops ls → YieldsIn P ops C oi v a → HeadQ P md ops C n L f (ls.setIfInBounds i true) (a.put oi.dst v) → HeadQ P md ops C n L (f + 1) ls a := by
  intro f
  induction f with
  | zero =>
    intro ls a inv _ hr hy hL
    have hun := (mem_ready.1 hr).1
    refine ⟨List.ne_nil_of_mem hr, fun j hj => ?_⟩
    by_cases hjn : j < n
    · by_cases hji : j = i
      · subst hji; exact ⟨hjn, hy.qOp hi hL⟩
      · exact absurd (hdone _ _ hL j (ready_mono hj hji)) (by omega)
    · exact absurd hj (tail_waits hs hc hn inv _ i rfl hin hun j (by omega))
  | succ f ih =>
    intro ls a inv hfree hr hy hH
    have hun := (mem_ready.1 hr).1
    refine ⟨List.ne_nil_of_mem hr, fun j hj => ?_⟩
    by_cases hjn : j < n
    · refine ⟨hjn, ?_⟩
      by_cases hji : j = i
      · subst hji; exact hy.qOp hi hH
      · obtain ⟨hjun, oj, hoj, hall⟩ := mem_ready.1 hj
        have hno : ∀ e ∈ oj.after, Region.binds md e = true → e.on ≠ i := fun e he hb he2 => by
          have := hall e he hb
          rw [he2, getD_both hun] at this
          cases this
        have h1 := qOp_put hoj (hfree j oj hoj hji hjun hno) (fun cs b => hsel i oi cs b hi) (fun cs b => hsel j oj cs b hoj) hy (hH.2 j (ready_mono hj hji)).2
        refine qOp_mono (fun a' h3 => ih (ls.setIfInBounds j true) a' (inv.set hj hjn) (fun k ok hk hki hun' hno' => ?_) (ready_mono hr (Ne.symm hji)) h3.1 ?_) h1
        · refine hfree k ok hk hki ?_ hno'
          by_cases hjk : j = k
          · subst hjk; exact hjun
          · rw [getD_set_ne true hjk] at hun'; exact hun'
        · rw [Array.setIfInBounds_comm _ _ hji]; exact h3.2
    · exact absurd hj (tail_waits hs hc hn inv _ i rfl hin hun j (by omega))

theorem headQ_lex {n g : Nat} {Lq : Act → Prop} (hsel : Region.noSelect ops = true) (hs : Region.sinkB md ops n = true) (hc : Region.chainB md ops n = true) (hn : n < ops.size) :
    ∀ (l : List Oper) (k : Nat) (ls : Array Bool) (a : Act), (∀ j, j < l.length → l[j]? = ops[k + j]?) → k + l.length = n → HeadInv md ops n ls →
    Region.lexHead md ops g l.length k ls = true → wpQuiet P ops C Lq l a → HeadQ P md ops C n (fun ls' a' => Region.seqB md ops g n ls' = true ∧ Lq a') l.length ls a
  | [], k, ls, a, _, hk, _, hB, h => by
    have : k = n := by simpa using hk
    subst this
    exact ⟨by simpa [Region.lexHead] using hB, h⟩
  | o :: l, k, ls, a, hl, hk, inv, hB, h => by
    have h0 : ops[k]? = some o := by simpa using (hl 0 (by simp)).symm
    simp only [List.length_cons] at hk
    simp only [List.length_cons, Region.lexHead, Bool.and_eq_true] at hB
    have hr : k ∈ Region.ready md ops ls := by simpa using hB.1.1
    have hq : qOp P ops C k (wpQuiet P ops C Lq l) a := by unfold qOp; simp only [h0]; exact h
    obtain ⟨v, hy, hK⟩ := yieldsIn_of_qOp h0 hq
    exact headQ_take h0 (Region.noSelect_spec hsel) hs hc hn (by omega) (fun ls' a' hL => seqB_ready hL.1) l.length ls a inv (Region.free_spec h0 hB.1.2) hr hy
      (headQ_lex hsel hs hc hn l (k + 1) _ _ (fun j hj => by have := hl (j + 1) (by simp; omega); simpa [Nat.add_assoc, Nat.add_comm 1 j] using this) (by omega) (inv.set hr (by omega)) hB.2 hK)

/-- A region that draws: its first n operations quiet in a class of worlds, the others one behind the other. -/
theorem wp_region_qtail {id : Nat} {Q : Exit → Act → World → Prop} {a : Act} {w : World} {n : Nat} (hm : P.follows .mixedOrders = true) (hB : Region.lexTailB .any ops n = true) (hC : C { w with drawn := w.drawn + 1 })
    (h : wpQuiet P ops C (fun a' => ∀ w', C w' → wpList P ops Q (ops.toList.drop n) a' w') (ops.toList.take n) a) : (Code.region id ops true).wp P Q a w := by
  simp only [Region.lexTailB, Bool.and_eq_true, decide_eq_true_eq] at hB
  obtain ⟨⟨⟨⟨hsel, hn⟩, hs⟩, hc⟩, hlex⟩ := hB
  have htl : (ops.toList.take n).length = n := by simp; omega
  have hdl : (ops.toList.drop n).length = ops.size - n := by simp
  have inv0 : HeadInv .any ops n (Array.replicate ops.size false) :=
    ⟨by simp, fun j oj _ hl => (by rw [getD_replicate_false] at hl; cases hl), fun t _ ht => getD_in (by simpa using ht) (getD_replicate_false _ _)⟩
  have hH := headQ_lex (md := .any) (g := ops.size - n) hsel hs hc hn (ops.toList.take n) 0 _ a (fun j hj => by
    rw [htl] at hj
    simp [hj]) (by simpa using htl) inv0 (by rw [htl]; exact hlex) h
  refine wp_region_any hm ?_
  have := any_of_headQ (Q := Q) (g := ops.size - n) (fun ls a' w' hw' hL => by
    have := wpAny_of_seq (md := .any) (Q' := Q) (ops.toList.drop n) n ls a' w' (fun j => by simp [List.getElem?_drop]) (by rw [hdl]; exact hL.1) (hL.2 w' hw')
    rwa [hdl] at this) _ _ _ _ hC hH
  rw [htl, show n + (ops.size - n) = ops.size by omega] at this
  exact this
end tail

/-! ### Weakening -/
theorem get_take {ρ : List Loc} {i n : Nat} {l : Loc} (h : ρ[i]? = some l) (hi : i < n) : (ρ.take n)[i]? = some l := by
  rw [List.getElem?_take, if_pos hi]; exact h
theorem relC_take {ρ : List Loc} {n : Nat} {c : CV} {x : Value} (h : c.rel ρ x) (hk : okC n c) : c.rel (ρ.take n) x := by
  cases c with
  | any => trivial
  | v y => exact h
  | lp i off => obtain ⟨l, hl, hx⟩ := h; exact ⟨l, get_take hl hk, hx⟩
  | sl i m => obtain ⟨l, hl, hx⟩ := h; exact ⟨l, get_take hl hk, hx⟩
theorem RelL_takeρ {ρ : List Loc} {n : Nat} : ∀ {cs : List CV} {xs : List Value}, RelL ρ cs xs → okCs n cs → RelL (ρ.take n) cs xs
  | [], [], _, _ => trivial
  | _ :: _, _ :: _, h, k => ⟨relC_take h.1 k.1, RelL_takeρ h.2 k.2⟩
  | [], _ :: _, h, _ => h.elim
  | _ :: _, [], h, _ => h.elim
theorem okCsB_eq {n : Nat} : ∀ {cs : List CV}, okCsB n cs = true → okCs n cs
  | [], _ => trivial
  | .any :: cs, h => ⟨trivial, okCsB_eq (cs := cs) h⟩
  | .v _ :: cs, h => ⟨trivial, okCsB_eq (cs := cs) h⟩
  | .lp i _ :: cs, h => by
    simp only [okCsB] at h
    split at h
    · rename_i hi; exact ⟨by simpa [okC] using hi, okCsB_eq h⟩
    · cases h
  | .sl i _ :: cs, h => by
    simp only [okCsB] at h
    split at h
    · rename_i hi; exact ⟨by simpa [okC] using hi, okCsB_eq h⟩
    · cases h
def okA (n : Nat) : AV → Prop
  | .c x => okC n x
  | .agg cs => okCs n cs
theorem okSB_cons {n : Nat} {a : AV} {s : List AV} (h : okSB n (a :: s) = true) : okA n a ∧ okSB n s = true := by
  cases a with
  | agg cs =>
    simp only [okSB] at h
    split at h
    · rename_i hc; exact ⟨okCsB_eq hc, h⟩
    · cases h
  | c c =>
    cases c with
    | any => exact ⟨trivial, h⟩
    | v x => exact ⟨trivial, h⟩
    | lp i o =>
      simp only [okSB] at h
      split at h
      · rename_i hi; exact ⟨by simpa [okA, okC] using hi, h⟩
      · cases h
    | sl i o =>
      simp only [okSB] at h
      split at h
      · rename_i hi; exact ⟨by simpa [okA, okC] using hi, h⟩
      · cases h
theorem relA_take {ρ : List Loc} {n : Nat} {av : AV} {x : Value} (h : av.rel ρ x) (hk : okA n av) : av.rel (ρ.take n) x := by
  cases av with
  | c c => exact relC_take (c := c) h hk
  | agg cs => obtain ⟨xs, hx, hr⟩ := h; exact ⟨xs, hx, RelL_takeρ hr hk⟩
theorem wkS_cons {a b : AV} {s t : List AV} (h : wkS (a :: s) (b :: t)) : (b = .c .any ∨ a = b) ∧ wkS s t := by
  cases b with
  | agg cs => exact ⟨.inr h.1, h.2⟩
  | c c =>
    cases c with
    | any => exact ⟨.inl rfl, h⟩
    | _ => exact ⟨.inr h.1, h.2⟩
theorem wkS_rel {ρ : List Loc} {n : Nat} : ∀ {s t : List AV} {xs : List Value}, wkS s t → okSB n t = true → RelS ρ s xs → RelS (ρ.take n) t xs
  | [], [], [], _, _, _ => trivial
  | a :: s, b :: t, x :: xs, h, k, r => by
    obtain ⟨h1, h2⟩ := wkS_cons h
    obtain ⟨k1, k2⟩ := okSB_cons k
    refine ⟨?_, wkS_rel h2 k2 r.2⟩
    rcases h1 with rfl | rfl
    · trivial
    · exact relA_take r.1 k1
  | [], [], _ :: _, _, _, r => r.elim
  | [], _ :: _, _, h, _, _ => h.elim
  | _ :: _, [], _, h, _, _ => h.elim
  | _ :: _, _ :: _, [], _, _, r => r.elim
theorem forceS_eq : ∀ (s : List AV) (K : List AV → Prop), forceS s K = K s
  | [], _ => rfl
  | a :: s, K => by simp only [forceS, forceA_eq, forceS_eq s]
theorem forceH_eq : ∀ (s : List Ent) (K : List Ent → Prop), forceH s K = K s
  | [], _ => rfl
  | a :: s, K => by simp only [forceH, forceH_eq s]
theorem wkCs_rel {ρ : List Loc} : ∀ {cs ds : List CV} {xs : List Value}, wkCs cs ds → RelL ρ cs xs → RelL ρ ds xs
  | [], [], [], _, _ => trivial
  | c :: cs, d :: ds, x :: xs, h, r => by
    refine ⟨?_, wkCs_rel h.2 r.2⟩
    have h1 := h.1
    cases d with
    | any => trivial
    | v y => have : c = .v y := by cases c <;> simp_all [wkC]
             subst this; exact r.1
    | lp i off => have : c = .lp i off := by cases c <;> simp_all [wkC]
                  subst this; exact r.1
    | sl i m => have : c = .sl i m := by cases c <;> simp_all [wkC]
                subst this; exact r.1
  | [], [], _ :: _, _, r => r.elim
  | [], _ :: _, _, h, _ => h.elim
  | _ :: _, [], _, h, _ => h.elim
  | _ :: _, _ :: _, [], _, r => r.elim
theorem wkH_get : ∀ {H G : List Ent} {i : Nat} {f : Ent}, wkH H G → G[i]? = some f → ∃ e, H[i]? = some e ∧ wkE e f
  | _ :: _, _ :: _, 0, f, h, hf => by simp at hf; subst hf; exact ⟨_, by simp, h.1⟩
  | _ :: H, _ :: G, i + 1, f, h, hf => by simp at hf ⊢; exact wkH_get h.2 hf
  | _, [], _, _, _, hf => by simp at hf
  | [], _ :: _, _, _, h, _ => h.elim
theorem wkH_len : ∀ {H G : List Ent}, wkH H G → G.length ≤ H.length
  | _, [], _ => by simp
  | _ :: _, _ :: _, h => by simp; exact wkH_len h.2
  | [], _ :: _, h => h.elim
theorem okH_get {n : Nat} : ∀ {H : List Ent} {i : Nat} {e : Ent}, okH n H → H[i]? = some e → okE n e
  | _ :: _, 0, _, h, he => by simp at he; subst he; exact h.1
  | _ :: _, _ + 1, _, h, he => by simp at he; exact okH_get h.2 he
  | [], _, _, _, he => by simp at he
theorem wkE_own {e f : Ent} (h : wkE e f) (hf : f.own = true) : e.own = true := by
  cases f <;> first | cases hf | skip
  · cases e <;> first | rfl | exact h.elim
  · cases e <;> first | rfl | exact h.elim

theorem Sat.weak {ρ : List Loc} {S : Nat → Prop} {H G : List Ent} {w : World} (h : Sat ρ S H w) (hw : wkH H G) (hk : okH G.length G) : Sat (ρ.take G.length) S G w ∧ ∀ b, mb (ρ.take G.length) G b → mb ρ H b := by
  have hlen := wkH_len hw
  have hmb : ∀ b, mb (ρ.take G.length) G b → mb ρ H b := by
    rintro b ⟨i, f, l, hf, hfo, hl, rfl⟩
    obtain ⟨e, he, hwe⟩ := wkH_get hw hf
    rw [List.getElem?_take] at hl
    split at hl
    · exact ⟨i, e, l, he, wkE_own hwe hfo, hl, rfl⟩
    · cases hl
  refine ⟨⟨by simp [h.len, hlen], fun i f hf => ?_, fun i j f g l m hf hg hfo hgo hl hm hb => ?_, fun b hb => h.out b (hmb b hb), h.low⟩, hmb⟩
  · obtain ⟨e, he, hwe⟩ := wkH_get hw hf
    have hi : i < G.length := (List.getElem?_eq_some_iff.1 hf).1
    have hok := okH_get hk hf
    have hee := h.ent i e he
    cases f with
    | dead => trivial
    | fact F =>
      cases e with
      | fact F' => exact ⟨hwe w hee.1, fun w' hw' => hwe w' (hee.2 w' hw')⟩
      | _ => exact hwe.elim
    | blk T cs =>
      cases e with
      | blk U ds =>
        obtain ⟨hT, hcs⟩ := hwe
        subst hT
        obtain ⟨l, arr, hl, hb, hr⟩ := hee
        exact ⟨l, arr, get_take hl hi, hb, RelL_takeρ (wkCs_rel hcs hr) hok⟩
      | _ => exact hwe.elim
    | row T sz n cs =>
      cases e with
      | row U b m ds =>
        obtain ⟨rfl, rfl, rfl, rfl⟩ := hwe
        obtain ⟨l, arr, hl, hb, h1, h2, h3, h4, hr⟩ := hee
        exact ⟨l, arr, get_take hl hi, hb, h1, h2, h3, h4, RelL_takeρ hr hok⟩
      | _ => exact hwe.elim
  · obtain ⟨e, he, hwe⟩ := wkH_get hw hf
    obtain ⟨e', he', hwe'⟩ := wkH_get hw hg
    rw [List.getElem?_take] at hl hm
    split at hl
    · split at hm
      · exact h.inj i j e e' l m he he' (wkE_own hwe hfo) (wkE_own hwe' hgo) hl hm hb
      · cases hm
    · cases hl

/-! ### A loop with a measure of its own -/
theorem wp_loop_by {P : Program} {c : Code} {Q : Exit → Act → World → Prop} (I : Nat → Act → World → Prop)
    (round : ∀ n a w, I n a w → c.wp P (Exit.then (fun a' w' => ∃ m, m < n ∧ I m a' w') Q) a w) : ∀ n a w, I n a w → (Code.loop c).wp P Q a w := by
  intro n a w h0 b k cs
  have key : ∀ n a w, I n a w → ∃ e a' w', Q e a' w' ∧ Arrives P (lone (b.at a (.code c :: .inLoop c :: k)) cs w) b k cs e a' w' := by
    intro n
    induction n using Nat.strongRecOn with
    | _ n ih =>
      intro a w hI
      obtain ⟨e, a1, w1, hq, harr⟩ := round n a w hI b (.inLoop c :: k) cs
      cases e with
      | normal =>
        obtain ⟨m, hm, hI1⟩ := hq
        obtain ⟨e2, a2, w2, hq2, harr2⟩ := ih m hm a1 w1 hI1
        exact ⟨e2, a2, w2, hq2, .of_steps (Steps.trans harr (.one step_inLoop)) harr2⟩
      | exit id => exact ⟨_, a1, w1, hq, .pass (x := .inLoop c) rfl (fun _ _ => .inl (by simp)) harr⟩
      | goto l => exact ⟨_, a1, w1, hq, .pass (x := .inLoop c) rfl (fun _ _ => .inl (by simp)) harr⟩
      | ret => exact ⟨_, a1, w1, hq, .pass (x := .inLoop c) rfl (fun _ _ => .inl (by simp)) harr⟩
      | panic ch => exact ⟨_, a1, w1, hq, .pass (x := .inLoop c) rfl (fun _ _ => .inl (by simp)) harr⟩
      | outgrown => exact ⟨_, a1, w1, hq, .pass (x := .inLoop c) rfl (fun _ _ => .inl (by simp)) harr⟩
  obtain ⟨e, a', w', hq, harr⟩ := key n a w h0
  exact ⟨e, a', w', hq, .of_steps (.one step_loop) harr⟩
end Go.AX
