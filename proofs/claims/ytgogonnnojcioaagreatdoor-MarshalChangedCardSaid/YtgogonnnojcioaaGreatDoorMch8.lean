/-
  Lemmas (MP14 MP15 MP18 MP19 MD5 MC6 MC8 MD6 MC9 MC10 MC11 MC12 MC13 MD8 MP20 MD9 Ax54 D2).
-/
import Derived.Test.YtgogonnnojcioaaGreatDoorMch7
set_option linter.unusedVariables false
set_option linter.unusedSimpArgs false
namespace Go.Marshal
open Go.Core
theorem toS_open (x : UInt8) (st : PS) : toS (openM x st) = openS x (toS st) := rfl
theorem Ref.cell : ∀ n : Nat, Ref (formF n) (cellM n)
 | 0 => ⟨(fun st a st' h0 h => by cases h), (fun st e h0 h => by cases h; exact ⟨fail_e h0 99, by decide⟩), fun st h => fail_keep st 99 h⟩
 | n + 1 => by
  have ih := Ref.cell n
  refine Ref.bnd Ref.next (N := fun x st => if st.e ≠ 0 then (0, st) else if x = 64 then refM st else if 500 ≤ st.g.length ∨ x ∉ begins then (0, failM st 4) else ((st.g.length : Int), { (innerM (cellM n) x (openM x st)).2 with g := (innerM (cellM n) x (openM x st)).2.g.set st.g.length (innerM (cellM n) x (openM x st)).1 }))
   (fun x => ⟨fun st a st' h0 h => ?_, fun st e h0 h => ?_, fun st h => ?_⟩) (fun x st h => by rw [if_pos h])
  ·rw [if_neg (by simp [h0])]
   by_cases h64 : x = 64
   ·rw [if_pos h64] at h ⊢
    cases hn : numS maxN (toS st) with
    | error e => rw [hn] at h; cases h
    | ok p =>
     obtain ⟨k, st1⟩ := p
     rw [hn] at h
     have h1 := (Ref.num maxN).ok st k st1 h0 hn
     have h2 : (match st1.cells[k]? with
      | some c => .ok (c, st1)
      | none => .error 4 : Except Int (Int × St)) = .ok (a, st') := h
     unfold refM
     rw [h1]
     simp only
     rw [if_neg (by simp [ofS])]
     cases hc : st1.cells[k]? with
     | none => rw [hc] at h2; cases h2
     | some c =>
      rw [hc] at h2
      cases h2
      have := (List.getElem?_eq_some_iff.1 hc).1
      have hcl : ¬ (ofS st').cells.length ≤ k := by show ¬ st'.cells.length ≤ k; omega
      rw [if_neg hcl]
      show ((st'.cells.getD k 0 : Int), ofS st') = _
      rw [List.getD_eq_getElem?_getD, hc]
      rfl
   ·rw [if_neg h64] at h ⊢
    have e1 : (toS st).g.length = st.g.length := rfl
    rw [e1] at h
    by_cases hb : 500 ≤ st.g.length ∨ x ∉ begins
    ·rw [if_pos hb] at h; cases h
    ·rw [if_neg hb] at h ⊢
     have hx : x ∈ begins := Classical.byContradiction fun hx => hb (.inr hx)
     rw [← toS_open] at h
     have hi := Ref.inner ih hx
     cases hn : innerF (formF n) x (toS (openM x st)) with
     | error e => rw [hn] at h; cases h
     | ok p =>
      obtain ⟨c, st1⟩ := p
      rw [hn] at h
      have h1 := hi.ok (openM x st) c st1 h0 hn
      cases h
      rw [h1]
      rfl
  ·rw [if_neg (by simp [h0])]
   by_cases h64 : x = 64
   ·rw [if_pos h64] at h ⊢
    unfold refM
    cases hn : numS maxN (toS st) with
    | error e1 =>
     rw [hn] at h
     have : Except.error e1 = (Except.error e : Except Int (Int × St)) := h
     cases this
     obtain ⟨h1, h2⟩ := (Ref.num maxN).err st _ h0 hn
     simp only
     rw [if_pos (by rw [h1]; exact h2)]
     exact ⟨h1, h2⟩
    | ok p =>
     obtain ⟨k, st1⟩ := p
     rw [hn] at h
     have h1 := (Ref.num maxN).ok st k st1 h0 hn
     have h2 : (match st1.cells[k]? with
      | some c => .ok (c, st1)
      | none => .error 4 : Except Int (Int × St)) = .error e := h
     rw [h1]
     simp only
     rw [if_neg (by simp [ofS])]
     cases hc : st1.cells[k]? with
     | some c => rw [hc] at h2; cases h2
     | none =>
      rw [hc] at h2
      cases h2
      have := List.getElem?_eq_none_iff.1 hc
      have hcl : (ofS st1).cells.length ≤ k := by show st1.cells.length ≤ k; omega
      rw [if_pos hcl]
      exact ⟨fail_e rfl 4, by decide⟩
   ·rw [if_neg h64] at h ⊢
    have e1 : (toS st).g.length = st.g.length := rfl
    rw [e1] at h
    by_cases hb : 500 ≤ st.g.length ∨ x ∉ begins
    ·rw [if_pos hb] at h ⊢
     cases h
     exact ⟨fail_e h0 4, by decide⟩
    ·rw [if_neg hb] at h ⊢
     have hx : x ∈ begins := Classical.byContradiction fun hx => hb (.inr hx)
     rw [← toS_open] at h
     have hi := Ref.inner ih hx
     cases hn : innerF (formF n) x (toS (openM x st)) with
     | error e1 =>
      rw [hn] at h
      have : Except.error e1 = (Except.error e : Except Int (Int × St)) := h
      cases this
      exact hi.err (openM x st) _ h0 hn
     | ok p => rw [hn] at h; cases h
  ·rw [if_pos h]
theorem cell_dead (n : Nat) {st : PS} (h : st.e ≠ 0) : cellM (n + 1) st = (0, st) := by
 unfold cellM
 simp only
 rw [next_dead h, if_pos h]
def headM : B → PS → PS
 | [], st => st
 | h :: hs, st => headM hs (if (nextM st).1 ≠ h then failM (nextM st).2 4 else (nextM st).2)
def endM (st : PS) : PS := if st.e = 0 ∧ st.s ≠ [] then failM st 4 else st
open Classical in
noncomputable def checkM (st : PS) : PS := if st.e = 0 then { st with e := if ValidP st.g then 0 else 1 } else st
noncomputable def readM (s : B) : PS := checkM (endM (cellM (s.length + 1) (headM headB ⟨s, [], [], [], 0⟩)).2)
theorem head_dead : ∀ (hs : B) {st : PS}, st.e ≠ 0 → headM hs st = st
 | [], _, _ => rfl
 | h :: hs, st, hd => by
  unfold headM
  rw [next_dead hd]
  simp only
  split
  ·rw [fail_dead hd]; exact head_dead hs hd
  ·exact head_dead hs hd
theorem head_ref : ∀ (hs : B) (st : PS), st.e = 0 → (∀ r, headF hs st.s = .ok r → headM hs st = { st with s := r }) ∧ ∀ e, headF hs st.s = .error e → (headM hs st).e = e ∧ e ≠ 0
 | [], st, h0 => ⟨fun r h => by cases h; rfl, fun e h => by cases h⟩
 | x :: hs, st, h0 => by
  cases hs2 : st.s with
  | nil =>
   refine ⟨(fun r h => by cases h), fun e h => ?_⟩
   cases h
   have hn : nextM st = (0, { st with e := 14 }) := by unfold nextM; rw [if_neg (by simp [h0]), hs2]
   unfold headM
   rw [hn]
   simp only
   have hd : ({ st with e := 14 } : PS).e ≠ 0 := by show (14 : Int) ≠ 0; decide
   split
   ·rw [fail_dead hd, head_dead hs hd]
    exact ⟨rfl, by decide⟩
   ·rw [head_dead hs hd]
    exact ⟨rfl, by decide⟩
  | cons y s =>
   have hn : nextM st = (y, { st with s := s }) := by unfold nextM; rw [if_neg (by simp [h0]), hs2]
   unfold headM headF
   rw [hn]
   simp only
   by_cases hy : y = x
   ·rw [if_pos hy, if_neg (by simp [hy])]
    have ih := head_ref hs { st with s := s } h0
    exact ih
   ·rw [if_neg hy, if_pos hy]
    refine ⟨(fun r h => by cases h), fun e h => ?_⟩
    cases h
    have h4 : (failM ({ st with s := s } : PS) 4).e = 4 := fail_e (st := { st with s := s }) h0 4
    have hd : (failM ({ st with s := s } : PS) 4).e ≠ 0 := by rw [h4]; decide
    rw [head_dead hs hd]
    exact ⟨h4, by decide⟩
theorem end_dead {st : PS} (h : st.e ≠ 0) : endM st = st := by unfold endM; rw [if_neg (by simp [h])]
theorem check_dead {st : PS} (h : st.e ≠ 0) : checkM st = st := by unfold checkM; rw [if_neg h]
theorem load_ref {s : B} (hs : s.length ≤ 20000) : (∀ p, loadS s = .ok p → (readM s).e = 0 ∧ (readM s).g = p.1 ∧ (readM s).ss = p.2) ∧ ∀ e, loadS s = .error e → (readM s).e = e ∧ e ≠ 0 := by
 unfold loadS
 rw [if_neg (by omega)]
 have hh := head_ref headB ⟨s, [], [], [], 0⟩ rfl
 unfold readM
 cases hr : headF headB s with
 | error e1 =>
  obtain ⟨h1, h2⟩ := hh.2 e1 hr
  refine ⟨(fun p h => by cases h), fun e h => ?_⟩
  cases h
  have hd : (headM headB ⟨s, [], [], [], 0⟩).e ≠ 0 := by rw [h1]; exact h2
  rw [cell_dead _ hd, end_dead hd, check_dead hd]
  exact ⟨h1, h2⟩
 | ok r =>
  have h1 := hh.1 r hr
  rw [h1]
  have hl : r.length ≤ s.length := by rw [head_ok _ _ _ hr, List.length_append]; omega
  have hc := Ref.cell (s.length + 1)
  have hst : formF (r.length + 1) ⟨r, [], [], []⟩ = formF (s.length + 1) ⟨r, [], [], []⟩ := form_stab _ _ _ (Nat.lt_succ_self _) (by show r.length < _; omega)
  simp only
  rw [hst]
  cases hf : formF (s.length + 1) ⟨r, [], [], []⟩ with
  | error e1 =>
   obtain ⟨h2, h3⟩ := hc.err ⟨r, [], [], [], 0⟩ e1 rfl hf
   refine ⟨(fun p h => by cases h), fun e h => ?_⟩
   cases h
   have hd : (cellM (s.length + 1) ⟨r, [], [], [], 0⟩).2.e ≠ 0 := by rw [h2]; exact h3
   rw [end_dead hd, check_dead hd]
   exact ⟨h2, h3⟩
  | ok q =>
   obtain ⟨i, st⟩ := q
   have h2 := hc.ok ⟨r, [], [], [], 0⟩ i st rfl hf
   rw [h2]
   simp only
   by_cases hn : st.s = []
   ·have he : endM (ofS st) = ofS st := by
     unfold endM
     rw [if_neg]
     rintro ⟨_, h⟩
     exact h hn
    rw [if_neg (by simp [hn]), he]
    unfold checkM
    rw [if_pos (show (ofS st).e = 0 from rfl)]
    have hg : (ofS st).g = st.g := rfl
    rw [hg]
    by_cases hv : ValidP st.g
    ·rw [if_pos hv, if_pos hv]
     exact ⟨fun p h => by cases h; exact ⟨rfl, rfl, rfl⟩, fun e h => by cases h⟩
    ·rw [if_neg hv, if_neg hv]
     exact ⟨(fun p h => by cases h), fun e h => by cases h; exact ⟨rfl, by decide⟩⟩
   ·have he : endM (ofS st) = failM (ofS st) 4 := by
     unfold endM
     rw [if_pos ⟨rfl, hn⟩]
    have h4 : (failM (ofS st) 4).e = 4 := fail_e rfl 4
    rw [if_pos hn, he, check_dead (by rw [h4]; decide)]
    exact ⟨(fun p h => by cases h), fun e h => by cases h; exact ⟨h4, by decide⟩⟩
structure Le (k : Nat) (st st' : PS) : Prop where
 pot : st'.ss.length + st'.s.length ≤ st.ss.length + st.s.length + k
 s : st'.s.length ≤ st.s.length
 g : st.g.length ≤ st'.g.length
 g5 : st.g.length ≤ 500 → st'.g.length ≤ 500
 cl : st'.cells.length + st.g.length ≤ st.cells.length + st'.g.length
theorem Le.refl (st : PS) : Le 0 st st := ⟨by omega, by omega, by omega, fun h => h, by omega⟩
theorem Le.trans {k j : Nat} {a b c : PS} (h : Le k a b) (h2 : Le j b c) : Le (k + j) a c :=
 ⟨by have := h.pot; have := h2.pot; omega, Nat.le_trans h2.s h.s, Nat.le_trans h.g h2.g, fun h0 => h2.g5 (h.g5 h0), by have := h.cl; have := h2.cl; have := h.g; have := h2.g; omega⟩
theorem Le.mono {k j : Nat} {a b : PS} (h : Le k a b) (hj : k ≤ j) : Le j a b := ⟨by have := h.pot; omega, h.s, h.g, h.g5, h.cl⟩
theorem fail_le (st : PS) (e : Int) : Le 0 st (failM st e) := by unfold failM; split <;> exact ⟨by simp, by simp, by simp, fun h => h, by simp⟩
theorem next_le (st : PS) : Le 0 st (nextM st).2 := by
 unfold nextM
 split
 ·exact Le.refl st
 split
 ·exact ⟨by simp, by simp, by simp, fun h => h, by simp⟩
 ·rename_i x s h
  refine ⟨?_, ?_, by simp, fun h => h, by simp⟩ <;> · rw [h]; simp
theorem next_lt {st : PS} (h : (nextM st).2.e = 0 ∨ (nextM st).1 ≠ 0) : (nextM st).2.s.length + 1 ≤ st.s.length ∧ (nextM st).2.ss = st.ss ∧ (nextM st).2.g = st.g ∧ (nextM st).2.cells = st.cells ∧ (nextM st).2.e = st.e ∧ st.e = 0 := by
 unfold nextM at h ⊢
 split at h
 ·rename_i h1
  rcases h with h | h
  ·exact absurd h h1
  ·exact absurd rfl h
 rename_i h1
 rw [if_neg h1]
 cases hs : st.s with
 | nil =>
  rw [hs] at h
  rcases h with h | h
  ·exact absurd h (by show (14 : Int) ≠ 0; decide)
  ·exact absurd rfl h
 | cons x s => exact ⟨by simp, rfl, rfl, rfl, rfl, Classical.not_not.1 h1⟩
theorem rdQ_le : ∀ (s : B) (i : Nat), (rdQ i s).length ≤ s.length
 | [], _ => Nat.le_refl _
 | x :: s, i => by
  unfold rdQ
  split
  ·simp
  split
  ·simp
  ·exact Nat.le_trans (rdQ_le s _) (by simp)
theorem num_le (most : Nat) (st : PS) : Le 0 st (numM most st).2 := by
 have h := rdQ_le st.s 0
 unfold numM
 split
 ·exact Le.refl st
 split <;> exact ⟨by show st.ss.length + (rdQ 0 st.s).length ≤ _; omega, h, Nat.le_refl _, fun h => h, Nat.le_refl _⟩
theorem rdF_most {most : Nat} : ∀ (s : B) (i n a : Nat) (r : B), rdF most i n s = .ok (a, r) → a ≤ most
 | [], _, _, _, _, h => by unfold rdF at h; cases h
 | x :: s, i, n, a, r, h => by
  unfold rdF at h
  split at h
  ·cases h
  split at h
  ·split at h
   ·rename_i h3
    cases h
    exact h3
   ·cases h
  ·exact rdF_most s _ _ a r h
theorem num_most (most : Nat) (st : PS) : (numM most st).1 ≤ most := by
 unfold numM
 split
 ·exact Nat.zero_le _
 split
 ·rename_i n r h
  exact rdF_most _ _ _ _ _ h
 ·exact Nat.zero_le _
theorem text_le (most : Nat) (st : PS) : Le 0 st (textM most st).2 := by
 have h := num_le maxN st
 unfold textM
 split
 ·exact h
 split
 ·exact h.trans (k := 0) (j := 0) ⟨by simp, by simp, by simp, fun h => h, by simp⟩
 split
 ·exact h.trans (k := 0) (j := 0) ⟨by simp, by simp, by simp, fun h => h, by simp⟩
 ·exact h.trans (k := 0) (j := 0) ⟨by simp, by simp, by simp, fun h => h, by simp⟩
theorem sym_le (x : UInt8) (st : PS) : Le (if x = 58 then 1 else 0) st (symM x st).2 := by
 unfold symM
 split
 ·have h := text_le 40 st
  have h2 : Le 0 (textM 40 st).2 (if (textM 40 st).2.e = 0 ∧ (textM 40 st).1 ∈ (textM 40 st).2.ss then failM (textM 40 st).2 4 else (textM 40 st).2) := by
   split
   ·exact fail_le _ _
   ·exact Le.refl _
  have h3 := h.trans h2
  generalize (if (textM 40 st).2.e = 0 ∧ (textM 40 st).1 ∈ (textM 40 st).2.ss then failM (textM 40 st).2 4 else (textM 40 st).2) = q at h2 h3 ⊢
  have h4 := h.pot
  have h5 := h2.s
  exact ⟨by simp; omega, h3.s, h3.g, h3.g5, h3.cl⟩
 split
 ·have h := num_le maxN st
  split
  ·exact h
  ·exact h.trans (fail_le _ _)
 ·exact fail_le _ _
theorem nextsym_le (st : PS) : Le 0 st (symM (nextM st).1 (nextM st).2).2 := by
 have h := sym_le (nextM st).1 (nextM st).2
 by_cases hx : (nextM st).1 = 58
 ·rw [if_pos hx] at h
  obtain ⟨h1, h2, h3, h4, _⟩ := next_lt (st := st) (.inr (by rw [hx]; decide))
  have h5 := h.pot
  have h6 := h.cl
  rw [h2] at h5
  rw [h3, h4] at h6
  exact ⟨by omega, Nat.le_trans h.s (by omega), by rw [← h3]; exact h.g, fun h0 => h.g5 (by rw [h3]; exact h0), h6⟩
 ·rw [if_neg hx] at h
  exact (next_le st).trans h
theorem class_le (st : PS) : Le 0 st (classM st).2 := by
 unfold classM
 simp only
 split
 ·exact (nextsym_le st).trans (fail_le _ _)
 ·exact nextsym_le st
theorem name_le (ns : List B) (st : PS) : Le 0 st (nameM ns st).2 := by
 unfold nameM
 simp only
 split
 ·exact (nextsym_le st).trans (fail_le _ _)
 ·exact nextsym_le st
structure Takes (f : PS → Int × PS) : Prop where
 le : ∀ st, Le 0 st (f st).2
 lt : ∀ st, (f st).2.e = 0 → (f st).2.s.length < st.s.length
def liv (st : PS) : Nat := if st.e = 0 then 1 else 0
theorem items_le {f : PS → Int × PS} (hf : Takes f) : ∀ (n : Nat) (l : List Int) (st : PS), Le 0 st (itemsM f n l st).2 ∧ (itemsM f n l st).1.length + (itemsM f n l st).2.s.length + liv (itemsM f n l st).2 ≤ l.length + st.s.length + liv st
 | 0, l, st => ⟨Le.refl st, Nat.le_refl _⟩
 | n + 1, l, st => by
  unfold itemsM
  split
  ·rename_i h0
   obtain ⟨h1, h2⟩ := items_le hf n (l ++ [(f st).1]) (f st).2
   refine ⟨(hf.le st).trans h1, Nat.le_trans h2 ?_⟩
   have h3 := (hf.le st).s
   have h4 := hf.lt st
   unfold liv
   rw [if_pos h0, List.length_append, List.length_singleton]
   split
   ·rename_i h5
    have := h4 h5
    omega
   ·omega
  ·exact ⟨Le.refl st, Nat.le_refl _⟩
theorem attrs_le {f : PS → Int × PS} (hf : Takes f) : ∀ (n : Nat) (ns : List B) (l : List Int) (st : PS), Le 0 st (attrsM f n ns l st).2 ∧ (attrsM f n ns l st).1.2.length + (attrsM f n ns l st).2.s.length + liv (attrsM f n ns l st).2 ≤ l.length + st.s.length + liv st ∧ (attrsM f n ns l st).1.1.length + l.length = ns.length + (attrsM f n ns l st).1.2.length
 | 0, ns, l, st => ⟨Le.refl st, Nat.le_refl _, rfl⟩
 | n + 1, ns, l, st => by
  unfold attrsM
  split
  ·rename_i h0
   obtain ⟨h1, h2, h6⟩ := attrs_le hf n (ns ++ [(nameM ns st).1]) (l ++ [(f (nameM ns st).2).1]) (f (nameM ns st).2).2
   have h7 := name_le ns st
   refine ⟨(h7.trans (hf.le _)).trans h1, Nat.le_trans h2 ?_, ?_⟩
   ·have h3 := (hf.le (nameM ns st).2).s
    have h4 := hf.lt (nameM ns st).2
    have h8 := h7.s
    unfold liv
    rw [if_pos h0, List.length_append, List.length_singleton]
    split
    ·rename_i h5
     have := h4 h5
     omega
    ·omega
   ·simp only [List.length_append, List.length_singleton] at h6
    omega
  ·exact ⟨Le.refl st, Nat.le_refl _, rfl⟩
theorem inner_le {f : PS → Int × PS} (hf : Takes f) (x : UInt8) (st : PS) : Le (if x = 58 then 1 else 0) st (innerM f x st).2 := by
 have z : ∀ {st' : PS}, Le 0 st st' → Le (if x = 58 then 1 else 0) st st' := fun h => h.mono (Nat.zero_le _)
 have hs := sym_le x st
 generalize (if x = 58 then 1 else 0) = k at z hs ⊢
 unfold innerM
 split
 ·exact z (Le.refl _)
 split
 ·exact z (Le.refl _)
 split
 ·exact z (num_le _ _)
 split
 ·exact z (text_le _ _)
 split
 ·exact hs
 split
 ·exact z ((num_le _ _).trans (items_le hf _ _ _).1)
 split
 ·exact z ((num_le _ _).trans (items_le hf _ _ _).1)
 split
 ·exact z (((class_le st).trans (num_le _ _)).trans (attrs_le hf _ _ _ _).1)
 ·exact z (Le.refl _)
theorem ref_le (st : PS) : Le 0 st (refM st).2 := by
 have h := num_le maxN st
 unfold refM
 simp only
 split
 ·exact h
 split
 ·exact h.trans (fail_le _ _)
 ·exact h
theorem cell_takes : ∀ n : Nat, Takes (cellM n)
 | 0 => ⟨fun st => fail_le st 99, fun st h => by
   unfold cellM failM at h
   split at h
   ·exact absurd h (by show (99 : Int) ≠ 0; decide)
   ·rename_i h2; exact absurd h h2⟩
 | n + 1 => by
  have ih := cell_takes n
  have key : ∀ st, Le 0 st (cellM (n + 1) st).2 ∧ ((cellM (n + 1) st).2.e = 0 → (cellM (n + 1) st).2.s.length < st.s.length) := by
   intro st
   unfold cellM
   simp only
   have h0 := next_le st
   split
   ·rename_i h1
    exact ⟨h0, fun h => absurd h h1⟩
   rename_i h1
   obtain ⟨k1, k2, k3, k4, k5, k6⟩ := next_lt (st := st) (.inl (Classical.not_not.1 h1))
   split
   ·have h2 := ref_le (nextM st).2
    exact ⟨h0.trans h2, fun _ => Nat.lt_of_le_of_lt h2.s (by omega)⟩
   split
   ·have h2 := fail_le (nextM st).2 4
    exact ⟨h0.trans h2, fun _ => Nat.lt_of_le_of_lt h2.s (by omega)⟩
   ·rename_i h2 h3
    have h4 := inner_le ih (nextM st).1 (openM (nextM st).1 (nextM st).2)
    have o1 : (openM (nextM st).1 (nextM st).2).s = (nextM st).2.s := rfl
    have o2 : (openM (nextM st).1 (nextM st).2).ss = (nextM st).2.ss := rfl
    have o3 : (openM (nextM st).1 (nextM st).2).g.length = (nextM st).2.g.length + 1 := by unfold openM; simp
    have o4 : (openM (nextM st).1 (nextM st).2).cells.length ≤ (nextM st).2.cells.length + 1 := by unfold openM; simp only; split <;> simp
    have p1 := h4.pot
    have p2 := h4.s
    have p3 := h4.g
    have p4 := h4.g5
    have p5 := h4.cl
    rw [o1, o2] at p1
    rw [o1] at p2
    rw [o3] at p3 p4 p5
    rw [k2] at p1
    rw [k3] at p3 p4 p5
    rw [k4] at o4
    have hg : ¬ 500 ≤ (nextM st).2.g.length := fun h => h3 (.inl h)
    rw [k3] at hg
    have h58 : (if (nextM st).1 = 58 then 1 else 0) ≤ 1 := by split <;> omega
    refine ⟨⟨?_, ?_, ?_, fun _ => ?_, ?_⟩, fun _ => ?_⟩
    ·show (innerM (cellM n) (nextM st).1 (openM (nextM st).1 (nextM st).2)).2.ss.length + (innerM (cellM n) (nextM st).1 (openM (nextM st).1 (nextM st).2)).2.s.length ≤ _
     omega
    ·show (innerM (cellM n) (nextM st).1 (openM (nextM st).1 (nextM st).2)).2.s.length ≤ _
     omega
    ·show _ ≤ (List.set _ _ _).length
     rw [List.length_set]
     omega
    ·show (List.set _ _ _).length ≤ _
     rw [List.length_set]
     omega
    ·show (innerM (cellM n) (nextM st).1 (openM (nextM st).1 (nextM st).2)).2.cells.length + _ ≤ _ + (List.set _ _ _).length
     rw [List.length_set]
     omega
    ·show (innerM (cellM n) (nextM st).1 (openM (nextM st).1 (nextM st).2)).2.s.length < _
     omega
  exact ⟨fun st => (key st).1, fun st => (key st).2⟩
structure Bd (st : PS) : Prop where
 g : st.g.length ≤ 500
 cl : st.cells.length ≤ st.g.length
 pot : st.ss.length + st.s.length ≤ 30000
theorem Bd.le {st st' : PS} (b : Bd st) (h : Le 0 st st') : Bd st' := ⟨h.g5 b.g, by have := h.cl; have := b.cl; omega, by have := h.pot; have := b.pot; omega⟩
def gS (st : St) (g : List Cell) : St := { st with g := g }
structure FrS {α : Type} (F : St → Except Int (α × St)) : Prop where
 ok : ∀ st a st', F st = .ok (a, st') → ∃ tl, st'.g = st.g ++ tl ∧ ∀ g2, g2.length = st.g.length → F (gS st g2) = .ok (a, gS st' (g2 ++ tl))
 err : ∀ st e, F st = .error e → ∀ g2, g2.length = st.g.length → F (gS st g2) = .error e
theorem FrS.ret {α : Type} (a : α) : FrS fun st => .ok (a, st) :=
 ⟨fun st b st' h => by cases h; exact ⟨[], by simp, fun g2 _ => by rw [List.append_nil]⟩, fun st e h => by cases h⟩
theorem FrS.fail {α : Type} (e : Int) : FrS fun _ => (.error e : Except Int (α × St)) :=
 ⟨(fun st b st' h => by cases h), fun st e h g2 _ => h⟩
theorem FrS.bnd {α β : Type} {F : St → Except Int (α × St)} {G : α → St → Except Int (β × St)} (hF : FrS F) (hG : ∀ a, FrS (G a)) : FrS fun st => Marshal.bnd (F st) G := by
 refine ⟨fun st b st2 h => ?_, fun st e h g2 hg => ?_⟩
 ·cases hf : F st with
  | error e => simp only [hf] at h; cases h
  | ok p =>
   obtain ⟨a, st1⟩ := p
   simp only [hf] at h
   obtain ⟨t1, e1, k1⟩ := hF.ok st a st1 hf
   obtain ⟨t2, e2, k2⟩ := (hG a).ok st1 b st2 h
   refine ⟨t1 ++ t2, by rw [e2, e1, List.append_assoc], fun g2 hg => ?_⟩
   simp only [k1 g2 hg]
   have := k2 (g2 ++ t1) (by rw [e1, List.length_append, List.length_append, hg])
   rw [List.append_assoc] at this
   exact this
 ·cases hf : F st with
  | error e1 =>
   simp only [hf] at h
   simp only [hF.err st e1 hf g2 hg]
   exact h
  | ok p =>
   obtain ⟨a, st1⟩ := p
   simp only [hf] at h
   obtain ⟨t1, e1, k1⟩ := hF.ok st a st1 hf
   simp only [k1 g2 hg]
   exact (hG a).err st1 e h (g2 ++ t1) (by rw [e1, List.length_append, List.length_append, hg])
theorem FrS.same {α : Type} {F : St → Except Int (α × St)} (h : ∀ st g2, F (gS st g2) = match F st with
  | .ok (a, st') => .ok (a, gS st' g2)
  | .error e => .error e) (hg : ∀ st a st', F st = .ok (a, st') → st'.g = st.g) : FrS F :=
 ⟨fun st a st' e => ⟨[], by rw [hg st a st' e, List.append_nil], fun g2 _ => by rw [h, e, List.append_nil]⟩, fun st e he g2 _ => by rw [h, he]⟩
theorem FrS.next : FrS nextS := by
 refine FrS.same (fun st g2 => ?_) fun st a st' h => ?_
 ·unfold nextS gS
  cases st.s <;> rfl
 ·unfold nextS at h
  split at h
  ·cases h
  ·cases h; rfl
theorem FrS.num (most : Nat) : FrS (numS most) := by
 refine FrS.same (fun st g2 => ?_) fun st a st' h => ?_
 ·unfold numS gS
  cases rd most st.s <;> rfl
 ·unfold numS at h
  split at h
  ·cases h
  ·cases h; rfl
theorem FrS.text (most : Nat) : FrS (textS most) := by
 refine FrS.same (fun st g2 => ?_) fun st a st' h => ?_
 ·unfold textS gS
  cases rdT most st.s <;> rfl
 ·unfold textS at h
  split at h
  ·cases h
  ·cases h; rfl
theorem FrS.sym (x : UInt8) : FrS (symS x) := by
 refine FrS.same (fun st g2 => ?_) fun st a st' h => ?_
 ·unfold symS gS
  cases rdSym x st.ss st.s <;> rfl
 ·unfold symS at h
  split at h
  ·cases h
  ·cases h; rfl
theorem FrS.ite {α : Type} {P : Prop} [Decidable P] {F G : St → Except Int (α × St)} (hF : FrS F) (hG : FrS G) : FrS (fun st => if P then F st else G st) := by
 by_cases h : P
 ·simp only [if_pos h]; exact hF
 ·simp only [if_neg h]; exact hG
theorem FrS.items {f : St → Except Int (Int × St)} (hf : FrS f) : ∀ (n : Nat) (l : List Int), FrS (itemsA f n l)
 | 0, l => FrS.ret l
 | n + 1, l => hf.bnd fun i => FrS.items hf n (l ++ [i])
theorem FrS.attrs {f : St → Except Int (Int × St)} (hf : FrS f) : ∀ (n : Nat) (ns : List B) (l : List Int), FrS (attrsA f n ns l)
 | 0, ns, l => FrS.ret (ns, l)
 | n + 1, ns, l => FrS.bnd FrS.next fun x => FrS.bnd (FrS.sym x) fun t => FrS.ite (FrS.bnd hf fun i => FrS.attrs hf n (ns ++ [t]) (l ++ [i])) (FrS.fail 4)
theorem FrS.inner {f : St → Except Int (Int × St)} (hf : FrS f) (x : UInt8) : FrS (innerF f x) :=
 FrS.ite (FrS.ret _) <| FrS.ite (FrS.ret _) <| FrS.ite (FrS.ret _) <| FrS.ite (FrS.bnd (FrS.num _) fun _ => FrS.ret _) <| FrS.ite (FrS.bnd (FrS.text _) fun _ => FrS.ret _) <|
  FrS.ite (FrS.bnd (FrS.sym _) fun _ => FrS.ret _) <| FrS.ite (FrS.bnd (FrS.num _) fun n => FrS.bnd (FrS.items hf n []) fun _ => FrS.ret _) <|
  FrS.ite (FrS.bnd (FrS.num _) fun n => FrS.bnd (FrS.items hf (2 * n) []) fun _ => FrS.ret _) <|
  FrS.bnd FrS.next fun y => FrS.bnd (FrS.sym y) fun _ => FrS.ite (FrS.bnd (FrS.num _) fun n => FrS.bnd (FrS.attrs hf n [] []) fun _ => FrS.ret _) (FrS.fail 4)
theorem FrS.form : ∀ n : Nat, FrS (formF n)
 | 0 => FrS.fail 99
 | n + 1 => by
  have ih := FrS.form n
  refine FrS.bnd FrS.next fun x => FrS.ite (FrS.bnd (FrS.num _) fun k => ?_) ⟨fun st a st' h => ?_, fun st e h g2 hg => ?_⟩
  ·refine FrS.same (fun st g2 => ?_) fun st a st' h => ?_
   ·show (match st.cells[k]? with
     | some c => .ok (c, gS st g2)
     | none => .error 4 : Except Int (Int × St)) = _
    cases st.cells[k]? <;> rfl
   ·split at h
    ·cases h; rfl
    ·cases h
  ·split at h
   ·cases h
   rename_i hc
   cases hn : innerF (formF n) x (openS x st) with
   | error e => simp only [hn] at h; cases h
   | ok p =>
    obtain ⟨c, st1⟩ := p
    simp only [hn] at h
    cases h
    obtain ⟨t1, e1, k1⟩ := (FrS.inner ih x).ok _ c st1 hn
    have e1 : st1.g = st.g ++ nilC :: t1 := by rw [e1]; show (st.g ++ [nilC]) ++ t1 = _; simp
    have hset : ∀ g : List Cell, g.length = st.g.length → (g ++ nilC :: t1).set st.g.length c = g ++ c :: t1 := fun g hg => by rw [← hg, List.set_append_right _ _ (Nat.le_refl _), Nat.sub_self]; rfl
    refine ⟨c :: t1, ?_, fun g2 hg => ?_⟩
    ·show st1.g.set st.g.length c = _
     rw [e1, hset st.g rfl]
    ·have hc2 : ¬ (500 ≤ (gS st g2).g.length ∨ x ∉ begins) := by show ¬ (500 ≤ g2.length ∨ x ∉ begins); rw [hg]; exact hc
     rw [if_neg hc2]
     have ho : openS x (gS st g2) = gS (openS x st) (g2 ++ [nilC]) := by unfold openS gS; simp only [hg]
     have k2 := k1 (g2 ++ [nilC]) (by show (g2 ++ [nilC]).length = (st.g ++ [nilC]).length; simp [hg])
     rw [ho, k2]
     show Except.ok (((gS st g2).g.length : Int), setS (gS st g2).g.length c (gS st1 (g2 ++ [nilC] ++ t1))) = _
     have hgl : (gS st g2).g.length = st.g.length := hg
     rw [hgl]
     have h9 := hset g2 hg
     have h8 : setS st.g.length c (gS st1 (g2 ++ [nilC] ++ t1)) = gS (setS st.g.length c st1) (g2 ++ c :: t1) := by
      unfold setS gS
      simp only [List.append_assoc, List.singleton_append, h9]
     rw [h8]
  ·split at h
   ·rename_i hc
    have hc2 : 500 ≤ (gS st g2).g.length ∨ x ∉ begins := by show 500 ≤ g2.length ∨ x ∉ begins; rw [hg]; exact hc
    rw [if_pos hc2]
    exact h
   rename_i hc
   have hc2 : ¬ (500 ≤ (gS st g2).g.length ∨ x ∉ begins) := by show ¬ (500 ≤ g2.length ∨ x ∉ begins); rw [hg]; exact hc
   rw [if_neg hc2]
   have ho : openS x (gS st g2) = gS (openS x st) (g2 ++ [nilC]) := by unfold openS gS; simp only [hg]
   cases hn : innerF (formF n) x (openS x st) with
   | ok p => simp only [hn] at h; cases h
   | error e1 =>
    simp only [hn] at h
    have k2 := (FrS.inner ih x).err _ e1 hn (g2 ++ [nilC]) (by show (g2 ++ [nilC]).length = (st.g ++ [nilC]).length; simp [hg])
    rw [ho, k2]
    exact h
def symD (x : UInt8) (st : PS) : B × PS :=
 if x = 59 then
  if (numM maxN st).2.e = 0 ∧ (numM maxN st).1 < (numM maxN st).2.ss.length then ((numM maxN st).2.ss.getD (numM maxN st).1 [], (numM maxN st).2) else ([], failM (numM maxN st).2 4)
 else if x = 58 then
  ((textM 40 st).1, if (textM 40 st).2.e ≠ 0 then (textM 40 st).2 else if (textM 40 st).1 ∈ (textM 40 st).2.ss then failM (textM 40 st).2 4 else { (textM 40 st).2 with ss := (textM 40 st).2.ss ++ [(textM 40 st).1] })
 else ([], failM st 4)
theorem symD_e (x : UInt8) (st : PS) : (symD x st).2.e = (symM x st).2.e ∧ ((symM x st).2.e = 0 → symD x st = symM x st) := by
 unfold symD symM
 by_cases h59 : x = 59
 ·subst h59
  simp only [if_true, show ¬ (59 : UInt8) = 58 by decide, if_false]
  exact ⟨trivial, fun _ => trivial⟩
 by_cases h58 : x = 58
 ·subst h58
  simp only [if_true, show ¬ (58 : UInt8) = 59 by decide, if_false]
  generalize textM 40 st = q
  obtain ⟨t, st1⟩ := q
  by_cases he : st1.e = 0
  ·by_cases hm : t ∈ st1.ss
   ·rw [if_neg (fun h => h he), if_pos hm, if_pos ⟨he, hm⟩]
    exact ⟨rfl, fun h => absurd (show (failM st1 4).e = 0 from h) (by rw [fail_e he 4]; decide)⟩
   ·rw [if_neg (fun h => h he), if_neg hm, if_neg (fun h => hm h.2)]
    exact ⟨rfl, fun _ => rfl⟩
  ·rw [if_pos he, if_neg (fun h => he h.1)]
   exact ⟨rfl, fun h => absurd h he⟩
 ·simp only [h58, h59, if_false]
  exact ⟨trivial, fun _ => trivial⟩
theorem Ref.symD (x : UInt8) : Ref (symS x) (symD x) :=
  ⟨fun st a st' h0 h => by
    have h1 := (Ref.sym x).ok st a st' h0 h
    rw [(symD_e x st).2 (by rw [h1]; rfl), h1],
   fun st e h0 h => by rw [(symD_e x st).1]; exact (Ref.sym x).err st e h0 h,
   fun st h => by rw [(symD_e x st).1]; exact (Ref.sym x).dead st h⟩
end Go.Marshal
namespace Go.Proofs.YtgogonnnojcioaaGreatDoor
open Go.AX Go.RowKit Go.Core Go.Marshal
set_option maxRecDepth 20000
def ddE (rb : Nat) (S : List UInt8) (gv cv sv : Value) (st : PS) : List Ent :=
 [.app 109 6 [.string (bs S), .int .i64 ((S.length - st.s.length : Nat) : Int), gv, cv, sv, .int .i64 st.e] (some ⟨rb, 0, none⟩) 1 1]
theorem ddE_ok (rb : Nat) (S : List UInt8) (gv cv sv : Value) (st : PS) : okH (ddE rb S gv cv sv st).length (ddE rb S gv cv sv st) := okHB_eq rfl
def Left (S : List UInt8) (st : PS) : Prop := ∃ u, S = u ++ st.s
theorem fail_r (rb : Nat) (S : List UInt8) (gv cv sv : Value) (st : PS) (e : Int) : SpecH Tryz.prog 85 [.c (.v (.pointer (some ⟨rb, 0, none⟩))), .c (.v (.int .i64 e))] (ddE rb S gv cv sv st) (RetG (ι := Unit) (fun _ => True) (fun _ => .tuple #[]) fun _ => ddE rb S gv cv sv (failM st e)) := by
 refine ownC hm Tryz.func85 (by kernel_rfl) rfl rfl (fun _ _ => ddE_ok _ _ _ _ _ _) (fun _ _ => Nat.le_refl _) ?_
 refine wX ?_
 refine LdN.one (a := some ⟨rb, 0, none⟩) (q := 5) (.int .i64 st.e) rfl (fun w hw => hw.1) rfl ?_
 refine wX ?_
 refine brd_eq (fun h => ?_) (fun h => ?_)
 ·have e0 : failM st e = { st with e := e } := by unfold failM; rw [if_pos (by simpa using h)]
  rw [e0]
  refine wX ?_
  refine EffW.appTo (i := 0) (q := 5) (ys := [_]) [.string (bs S), .int .i64 ((S.length - st.s.length : Nat) : Int), gv, cv, sv, .int .i64 e] 6 rfl rfl rfl rfl rfl rfl rfl (Nat.le_of_ble_eq_true rfl) rfl rfl ?_
  refine wX ?_
  exact ⟨(), trivial, rfl, wkH_refl _⟩
 ·have e0 : failM st e = st := by unfold failM; rw [if_neg (by simpa using h)]
  rw [e0]
  refine wX ?_
  exact ⟨(), trivial, rfl, wkH_refl _⟩
theorem next_r (rb : Nat) (S : List UInt8) (hS : S.length ≤ 1000000) (gv cv sv : Value) (st : PS) (hl : Left S st) : SpecH Tryz.prog 84 [.c (.v (.pointer (some ⟨rb, 0, none⟩)))] (ddE rb S gv cv sv st) (RetG (ι := Unit) (fun _ => True) (fun _ => .int .u8 ((nextM st).1.toNat : Int)) fun _ => ddE rb S gv cv sv (nextM st).2) := by
 refine ownC hm Tryz.func84 (by kernel_rfl) rfl rfl (fun _ _ => ddE_ok _ _ _ _ _ _) (fun _ _ => Nat.le_refl _) ?_
 have hsz := bs_size S
 by_cases he : st.e = 0
 ·obtain ⟨s, g, cells, ss, e⟩ := st
  simp only at he
  subst he
  obtain ⟨u, hu⟩ := hl
  simp only at hu
  have hul : S.length = u.length + s.length := by rw [hu, List.length_append]
  refine wX ?_
  refine LdN.one (a := some ⟨rb, 0, none⟩) (q := 5) (.int .i64 0) rfl (fun w hw => hw.1) rfl ?_
  refine wX ?_
  refine LdN.one (a := some ⟨rb, 0, none⟩) (q := 1) (.int .i64 ((S.length - s.length : Nat) : Int)) rfl (fun w hw => hw.1) rfl ?_
  refine wX ?_
  refine LdN.one (a := some ⟨rb, 0, none⟩) (q := 0) (.string (bs S)) rfl (fun w hw => hw.1) rfl ?_
  refine wX ?_
  refine brd_dec (fun h1 => ?_) (fun h1 => ?_)
  ·have hs0 : s = [] := List.eq_nil_of_length_eq_zero (by rw [hsz] at h1; omega)
   subst hs0
   refine wX ?_
   refine callG (fail_r rb S gv cv sv ⟨[], g, cells, ss, 0⟩ 14) [0] rfl ⟨rfl, trivial⟩ rfl fun _ _ => ?_
   refine wX ?_
   exact ⟨(), trivial, rfl, wkH_refl _⟩
  ·cases s with
   | nil => exact absurd (by rw [hsz, List.length_nil, Nat.sub_zero]; exact Int.le_refl _) h1
   | cons x s =>
    have hat : S.length - (x :: s).length = u.length := by omega
    have hat2 : S.length - s.length = u.length + 1 := by rw [List.length_cons] at hul; omega
    have hby : byteAt (bs S) u.length = (x.toNat : Int) := by rw [hu]; simp [byteAt, bs]
    rw [hat]
    refine wX ?_
    refine LdN.one (a := some ⟨rb, 0, none⟩) (q := 1) (.int .i64 ((S.length - (x :: s).length : Nat) : Int)) rfl (fun w hw => hw.1) rfl ?_
    rw [hat]
    refine wX ?_
    refine EffW.appTo (i := 0) (q := 1) (ys := [_]) [.string (bs S), .int .i64 ((S.length - s.length : Nat) : Int), gv, cv, sv, .int .i64 0] 6 rfl rfl rfl rfl rfl rfl rfl (Nat.le_of_ble_eq_true rfl) ?_ rfl ?_
    ·rw [hat2, wrap_i64 (by omega)]
     rfl
    refine wX ?_
    refine LdN.one (a := some ⟨rb, 0, none⟩) (q := 0) (.string (bs S)) rfl (fun w hw => hw.1) rfl ?_
    refine wX ?_
    refine LdN.one (a := some ⟨rb, 0, none⟩) (q := 1) (.int .i64 ((S.length - s.length : Nat) : Int)) rfl (fun w hw => hw.1) rfl ?_
    refine wX ?_
    have hix : IntKind.i64.wrap (((S.length - s.length : Nat) : Int) - 1) = (u.length : Int) := by rw [hat2, wrap_i64 (by omega)]; omega
    rw [hix]
    refine Nd.mk ⟨by omega, by rw [hsz, hul]; simp; omega⟩ ?_
    refine wX ?_
    rw [Int.toNat_natCast, hby]
    exact ⟨(), trivial, rfl, wkH_refl _⟩
 ·have e0 : nextM st = (0, st) := by unfold nextM; rw [if_pos he]
  rw [e0]
  refine wX ?_
  refine LdN.one (a := some ⟨rb, 0, none⟩) (q := 5) (.int .i64 st.e) rfl (fun w hw => hw.1) rfl ?_
  refine wX ?_
  refine brd_ne (fun _ => ?_) (fun h => absurd h he)
  refine wX ?_
  exact ⟨(), trivial, rfl, wkH_refl _⟩
structure RdP where
 m : List CellP
 ga : Option Addr
 gc : Nat
 ca : Option Addr
 cc : Nat
 sa : Option Addr
 sc : Nat
def rdC (st : PS) (p : RdP) : List Value := [.string (bs st.s), .slice p.ga p.m.length p.gc, .slice p.ca st.cells.length p.cc, .slice p.sa st.ss.length p.sc, .int .i64 st.e]
def rdE (rb : Nat) (st : PS) (p : RdP) : List Ent :=
 [.app 84 5 (rdC st p) (some ⟨rb, 0, none⟩) 1 1, .app 57 5 (grC p.m) p.ga p.m.length p.gc, .fact (fun w => ∀ q ∈ p.m, CellF q w), .app 3 1 (iC st.cells) p.ca st.cells.length p.cc, .app 9 1 (strC st.ss) p.sa st.ss.length p.sc]
theorem rdE_ok (rb : Nat) (st : PS) (p : RdP) : okH (rdE rb st p).length (rdE rb st p) := okHB_eq rfl
theorem fail_m (rb : Nat) (st : PS) (p : RdP) (e : Int) : SpecH Tryz.prog 63 [.c (.v (.pointer (some ⟨rb, 0, none⟩))), .c (.v (.int .i64 e))] (rdE rb st p) (RetG (ι := Unit) (fun _ => True) (fun _ => .tuple #[]) fun _ => rdE rb (failM st e) p) := by
 refine ownC hm Tryz.func63 (by kernel_rfl) rfl rfl (fun _ _ => rdE_ok _ _ _) (fun _ _ => Nat.le_refl _) ?_
 refine wX ?_
 refine LdN.one (a := some ⟨rb, 0, none⟩) (q := 4) (.int .i64 st.e) rfl (fun w hw => hw.1) rfl ?_
 refine wX ?_
 refine brd_eq (fun h => ?_) (fun h => ?_)
 ·have e0 : failM st e = { st with e := e } := by unfold failM; rw [if_pos (by simpa using h)]
  rw [e0]
  refine wX ?_
  refine EffW.appTo (i := 0) (q := 4) (ys := [_]) (rdC ({ st with e := e }) p) 5 rfl rfl rfl rfl rfl rfl rfl (Nat.le_of_ble_eq_true rfl) rfl rfl ?_
  refine wX ?_
  exact ⟨(), trivial, rfl, wkH_refl _⟩
 ·have e0 : failM st e = st := by unfold failM; rw [if_neg (by simpa using h)]
  rw [e0]
  refine wX ?_
  exact ⟨(), trivial, rfl, wkH_refl _⟩
theorem fail_mD (rb : Nat) (st : PS) (p : RdP) (h : st.e ≠ 0) (e : Int) : failM st e = st := by unfold failM; rw [if_neg h]
theorem next_m (rb : Nat) (st : PS) (p : RdP) : SpecH Tryz.prog 62 [.c (.v (.pointer (some ⟨rb, 0, none⟩)))] (rdE rb st p) (RetG (ι := Unit) (fun _ => True) (fun _ => .int .u8 ((nextM st).1.toNat : Int)) fun _ => rdE rb (nextM st).2 p) := by
 refine ownC hm Tryz.func62 (by kernel_rfl) rfl rfl (fun _ _ => rdE_ok _ _ _) (fun _ _ => Nat.le_refl _) ?_
 by_cases he : st.e = 0
 ·obtain ⟨s, g, cells, ss, e⟩ := st
  simp only at he
  subst he
  refine wX ?_
  refine LdN.one (a := some ⟨rb, 0, none⟩) (q := 4) (.int .i64 0) rfl (fun w hw => hw.1) rfl ?_
  refine wX ?_
  refine LdN.one (a := some ⟨rb, 0, none⟩) (q := 0) (.string (bs s)) rfl (fun w hw => hw.1) rfl ?_
  cases s with
  | nil =>
   refine wX ?_
   refine callG (fail_m rb ⟨[], g, cells, ss, 0⟩ p 14) [0, 1, 2, 3, 4] rfl ⟨rfl, rfl, rfl, rfl, rfl, trivial⟩ rfl fun _ _ => ?_
   refine wX ?_
   exact ⟨(), trivial, rfl, wkH_refl _⟩
  | cons x s =>
   refine wX ?_
   refine LdN.one (a := some ⟨rb, 0, none⟩) (q := 0) (.string (bs (x :: s))) rfl (fun w hw => hw.1) rfl ?_
   refine wX ?_
   have hz : 0 < (bs (x :: s)).size := by rw [bs_size]; exact Nat.succ_pos _
   refine Nd.mk ⟨Int.le_refl _, by omega⟩ ?_
   refine wX ?_
   refine LdN.one (a := some ⟨rb, 0, none⟩) (q := 0) (.string (bs (x :: s))) rfl (fun w hw => hw.1) rfl ?_
   refine wX ?_
   refine ReadW.str_l rfl (by kernel_rfl) rfl rfl ⟨by decide, by omega⟩ ?_
   have e1 : (bs (x :: s)).extract (Int.toNat 1) (bs (x :: s)).size = bs s := by rw [bs_size]; exact bs_drop (x :: s) 1
   have e2 : byteAt (bs (x :: s)) (Int.toNat 0) = (x.toNat : Int) := rfl
   rw [e1, e2]
   refine wX ?_
   refine EffW.appTo (i := 0) (q := 0) (ys := [_]) (rdC (⟨s, g, cells, ss, 0⟩) p) 5 rfl rfl rfl rfl rfl rfl rfl (Nat.le_of_ble_eq_true rfl) rfl rfl ?_
   refine wX ?_
   exact ⟨(), trivial, rfl, wkH_refl _⟩
 ·have e0 : nextM st = (0, st) := by unfold nextM; rw [if_pos he]
  rw [e0]
  refine wX ?_
  refine LdN.one (a := some ⟨rb, 0, none⟩) (q := 4) (.int .i64 st.e) rfl (fun w hw => hw.1) rfl ?_
  refine wX ?_
  rw [show (st.e != 0) = true by simpa using he]
  refine wX ?_
  refine callG (fail_m rb st p 14) [0, 1, 2, 3, 4] rfl ⟨rfl, rfl, rfl, rfl, rfl, trivial⟩ rfl fun _ _ => ?_
  rw [fail_mD rb st p he]
  refine wX ?_
  exact ⟨(), trivial, rfl, wkH_refl _⟩
theorem rdF_cons (most i n : Nat) (x : UInt8) (s : List UInt8) : rdF most i n (x :: s) = if i = 0 ∧ x = 128 ∨ 9 ≤ i then .error 4 else if x.toNat < 128 then (if n * 128 + x.toNat % 128 ≤ most then .ok (n * 128 + x.toNat % 128, s) else .error 4) else rdF most (i + 1) (n * 128 + x.toNat % 128) s := by
 conv => lhs; unfold rdF
theorem rdQ_cons (i : Nat) (x : UInt8) (s : List UInt8) : rdQ i (x :: s) = if i = 0 ∧ x = 128 ∨ 9 ≤ i then s else if x.toNat < 128 then s else rdQ (i + 1) s := by
 conv => lhs; unfold rdQ
theorem and127 (x : UInt8) : IntKind.u8.wrap ((BitVec.ofInt IntKind.u8.bits (x.toNat : Int) &&& BitVec.ofInt IntKind.u8.bits 127).toNat : Int) = ((x.toNat % 128 : Nat) : Int) := by
 show IntKind.u8.wrap ((BitVec.ofInt 8 (x.toNat : Int) &&& BitVec.ofInt 8 127).toNat : Int) = _
 have hx := x.toNat_lt
 rw [BitVec.toNat_and, BitVec.toNat_ofInt, BitVec.toNat_ofInt]
 have e1 : ((x.toNat : Int) % ((2 ^ 8 : Nat) : Int)).toNat = x.toNat := by omega
 have e2 : ((127 : Int) % ((2 ^ 8 : Nat) : Int)).toNat = 2 ^ 7 - 1 := by decide
 rw [e1, e2, Nat.and_two_pow_sub_one_eq_mod]
 rw [wrap_u8 (by omega)]
theorem step7 (n c : Nat) (hn : n < 72057594037927936) (hc : c < 128) : IntKind.i64.wrap ((BitVec.ofInt IntKind.i64.bits (IntKind.i64.wrap ((n : Int) * 2 ^ min (Int.toNat 7) IntKind.i64.bits)) ||| BitVec.ofInt IntKind.i64.bits (IntKind.i64.wrap (c : Int))).toNat : Int) = ((n * 128 + c : Nat) : Int) := by
 rw [show (2 : Int) ^ min (Int.toNat 7) IntKind.i64.bits = 128 from rfl, wrap_i64 (x := (n : Int) * 128) (by omega), wrap_i64 (x := (c : Int)) (by omega)]
 show IntKind.i64.wrap ((BitVec.ofInt 64 ((n : Int) * 128) ||| BitVec.ofInt 64 (c : Int)).toNat : Int) = _
 rw [BitVec.toNat_or, BitVec.toNat_ofInt, BitVec.toNat_ofInt]
 have e1 : (((n : Int) * 128) % ((2 ^ 64 : Nat) : Int)).toNat = n * 128 := by omega
 have e2 : ((c : Int) % ((2 ^ 64 : Nat) : Int)).toNat = c := by omega
 rw [e1, e2]
 have := Nat.shiftLeft_add_eq_or_of_lt (b := c) (i := 7) (by omega) n
 rw [Nat.shiftLeft_eq] at this
 rw [show n * 128 = n * 2 ^ 7 from rfl, ← this, wrap_i64 (by omega)]
theorem next_cons (rb : Nat) (x : UInt8) (s : List UInt8) (g : List Cell) (cells : List Int) (ss : List (List UInt8)) (p : RdP) : SpecH Tryz.prog 62 [.c (.v (.pointer (some ⟨rb, 0, none⟩)))] (rdE rb ⟨x :: s, g, cells, ss, 0⟩ p) (RetG (ι := Unit) (fun _ => True) (fun _ => .int .u8 (x.toNat : Int)) fun _ => rdE rb ⟨s, g, cells, ss, 0⟩ p) :=
 next_m rb ⟨x :: s, g, cells, ss, 0⟩ p
theorem number_m (rb : Nat) (st : PS) (p : RdP) (most : Nat) (hm2 : most ≤ 2000000000000000) : SpecH Tryz.prog 87 [.c (.v (.pointer (some ⟨rb, 0, none⟩))), .c (.v (.int .i64 (most : Int)))] (rdE rb st p) (RetG (ι := Unit) (fun _ => True) (fun _ => .int .i64 ((numM most st).1 : Int)) fun _ => rdE rb (numM most st).2 p) := by
  refine ownC hm Tryz.func87 (by kernel_rfl) rfl rfl (fun _ _ => rdE_ok _ _ _) (fun _ _ => Nat.le_refl _) ?_
  by_cases he : st.e = 0
  · obtain ⟨s0, g, cells, ss, e⟩ := st
    simp only at he
    subst he
    refine wX ?_
    refine LoopN.intro (Nat × Nat × List UInt8) (fun ⟨i, n, s⟩ => rdF most i n s = rdF most 0 0 s0 ∧ rdQ i s = rdQ 0 s0 ∧ i ≤ 9 ∧ n < 128 ^ i)
      (fun ⟨i, n, _⟩ => mkS Tryz.f87.ntmps 0 [(0, .c (.v (.pointer (some ⟨rb, 0, none⟩)))), (1, .c (.v (.int .i64 (most : Int)))), (4, .c (.v (.int .i64 0))), (5, .c (.v (.int .i64 (n : Int)))), (6, .c (.v (.int .i64 (i : Int))))])
      (fun ⟨_, _, s⟩ => rdE rb ⟨s, g, cells, ss, 0⟩ p) (fun ⟨_, _, s⟩ => s.length) [] rfl
      (fun _ => rfl) (fun _ => rfl) (fun _ _ => rdE_ok _ _ _) ⟨(0, 0, s0), ⟨rfl, rfl, by omega, by omega⟩, ?_, wkH_refl _⟩ ?_
    · exact wKK
    rintro ⟨i, n, s⟩ ⟨h1, h2, h3, h4⟩
    have hn : n < 9223372036854775808 := Nat.lt_of_lt_of_le h4 (Nat.le_trans (Nat.pow_le_pow_right (by decide) h3) (by decide))
    cases s with
    | nil =>
      refine wX ?_
      refine callG (next_m rb ⟨[], g, cells, ss, 0⟩ p) [0, 1, 2, 3, 4] rfl ⟨rfl, rfl, rfl, rfl, rfl, trivial⟩ rfl fun _ _ => ?_
      have e0 : numM most ⟨s0, g, cells, ss, 0⟩ = (0, ⟨[], g, cells, ss, 14⟩) := by
        unfold numM rd
        rw [if_neg (by show ¬ (0 : Int) ≠ 0; decide)]
        simp only
        rw [← h1, ← h2]
        rfl
      rw [e0]
      refine wX ?_
      refine LdN.one (a := some ⟨rb, 0, none⟩) (q := 4) (.int .i64 14) rfl (fun w hw => hw.1) rfl ?_
      refine wX ?_
      exact ⟨(), trivial, rfl, wkH_refl _⟩
    | cons x s =>
      have hx128 : ((x.toNat : Int) == 128) = decide (x = 128) := by
        by_cases h : x = 128
        · subst h; rfl
        · rw [decide_eq_false h, beq_eq_false_iff_ne]
          intro h5
          exact h (UInt8.toNat_inj.1 (by have : x.toNat = 128 := by omega
                                         rw [this]; rfl))
      have bad : (i = 0 ∧ x = 128 ∨ 9 ≤ i) → numM most ⟨s0, g, cells, ss, 0⟩ = (0, ⟨s, g, cells, ss, 4⟩) := by
        intro hb
        unfold numM rd
        rw [if_neg (by show ¬ (0 : Int) ≠ 0; decide)]
        simp only
        rw [← h1, ← h2]
        unfold rdF rdQ
        rw [if_pos hb, if_pos hb]
      refine wX ?_
      refine callG (next_cons rb x s g cells ss p) [0, 1, 2, 3, 4] rfl ⟨rfl, rfl, rfl, rfl, rfl, trivial⟩ rfl fun _ _ => ?_
      refine wX ?_
      refine LdN.one (a := some ⟨rb, 0, none⟩) (q := 4) (.int .i64 0) rfl (fun w hw => hw.1) rfl ?_
      refine wX ?_
      by_cases hb : i = 0 ∧ x = 128 ∨ 9 ≤ i
      · rw [bad hb]
        rcases hb with ⟨rfl, rfl⟩ | hb
        · refine wX ?_
          refine callG (fail_m rb ⟨s, g, cells, ss, 0⟩ p 4) [0, 1, 2, 3, 4] rfl ⟨rfl, rfl, rfl, rfl, rfl, trivial⟩ rfl fun _ _ => ?_
          refine wX ?_
          exact ⟨(), trivial, rfl, wkH_refl _⟩
        · obtain rfl : i = 9 := by omega
          refine wX ?_
          refine callG (fail_m rb ⟨s, g, cells, ss, 0⟩ p 4) [0, 1, 2, 3, 4] rfl ⟨rfl, rfl, rfl, rfl, rfl, trivial⟩ rfl fun _ _ => ?_
          refine wX ?_
          exact ⟨(), trivial, rfl, wkH_refl _⟩
      · have f1 := h1
        have f2 := h2
        rw [rdF_cons, if_neg hb] at f1
        rw [rdQ_cons, if_neg hb] at f2
        have hi8 : i ≤ 8 := by omega
        have hn56 : n < 72057594037927936 := Nat.lt_of_lt_of_le h4 (Nat.le_trans (Nat.pow_le_pow_right (by decide) hi8) (by decide))
        by_cases hi : i = 0
        · subst hi
          have hx : x ≠ 128 := fun h => hb (.inl ⟨rfl, h⟩)
          refine wX ?_
          rw [hx128, decide_eq_false hx]
          refine wX ?_
          rw [and127, step7 n (x.toNat % 128) hn56 (Nat.mod_lt _ (by decide))]
          refine brd_dec (fun h5 => ?_) (fun h5 => ?_)
          · have h6 : x.toNat < 128 := by omega
            rw [if_pos h6] at f1 f2
            refine wX ?_
            refine brd_dec (fun h7 => ?_) (fun h7 => ?_)
            · have e0 : numM most ⟨s0, g, cells, ss, 0⟩ = (0, ⟨s, g, cells, ss, 4⟩) := by
                unfold numM rd
                rw [if_neg (by show ¬ (0 : Int) ≠ 0; decide)]
                simp only
                rw [← f1, ← f2, if_neg (by omega)]
              rw [e0]
              refine wX ?_
              refine callG (fail_m rb ⟨s, g, cells, ss, 0⟩ p 4) [0, 1, 2, 3, 4] rfl ⟨rfl, rfl, rfl, rfl, rfl, trivial⟩ rfl fun _ _ => ?_
              refine wX ?_
              exact ⟨(), trivial, rfl, wkH_refl _⟩
            · have e0 : numM most ⟨s0, g, cells, ss, 0⟩ = (n * 128 + x.toNat % 128, ⟨s, g, cells, ss, 0⟩) := by
                unfold numM rd
                rw [if_neg (by show ¬ (0 : Int) ≠ 0; decide)]
                simp only
                rw [← f1, ← f2, if_pos (by omega)]
              rw [e0]
              refine wX ?_
              exact ⟨(), trivial, rfl, wkH_refl _⟩
          · have h6 : ¬ x.toNat < 128 := by omega
            rw [if_neg h6] at f1 f2
            refine wX ?_
            refine ⟨(0 + 1, n * 128 + x.toNat % 128, s), ⟨f1, f2, by omega, by have h9 : n + 1 ≤ 128 ^ 0 := h4; rw [Nat.pow_succ]; have := Nat.mul_le_mul_right 128 h9; omega⟩, by show s.length < s.length + 1; omega, ?_, wHH⟩
            exact wKK
        · refine wX ?_
          rw [show ((i : Int) == 0) = false by rw [beq_eq_false_iff_ne]; omega]
          refine wX ?_
          rw [show ((i : Int) == 9) = false by rw [beq_eq_false_iff_ne]; omega]
          refine wX ?_
          rw [and127, step7 n (x.toNat % 128) hn56 (Nat.mod_lt _ (by decide))]
          refine brd_dec (fun h5 => ?_) (fun h5 => ?_)
          · have h6 : x.toNat < 128 := by omega
            rw [if_pos h6] at f1 f2
            refine wX ?_
            refine brd_dec (fun h7 => ?_) (fun h7 => ?_)
            · have e0 : numM most ⟨s0, g, cells, ss, 0⟩ = (0, ⟨s, g, cells, ss, 4⟩) := by
                unfold numM rd
                rw [if_neg (by show ¬ (0 : Int) ≠ 0; decide)]
                simp only
                rw [← f1, ← f2, if_neg (by omega)]
              rw [e0]
              refine wX ?_
              refine callG (fail_m rb ⟨s, g, cells, ss, 0⟩ p 4) [0, 1, 2, 3, 4] rfl ⟨rfl, rfl, rfl, rfl, rfl, trivial⟩ rfl fun _ _ => ?_
              refine wX ?_
              exact ⟨(), trivial, rfl, wkH_refl _⟩
            · have e0 : numM most ⟨s0, g, cells, ss, 0⟩ = (n * 128 + x.toNat % 128, ⟨s, g, cells, ss, 0⟩) := by
                unfold numM rd
                rw [if_neg (by show ¬ (0 : Int) ≠ 0; decide)]
                simp only
                rw [← f1, ← f2, if_pos (by omega)]
              rw [e0]
              refine wX ?_
              exact ⟨(), trivial, rfl, wkH_refl _⟩
          · have h6 : ¬ x.toNat < 128 := by omega
            rw [if_neg h6] at f1 f2
            refine wX ?_
            refine ⟨(i + 1, n * 128 + x.toNat % 128, s), ⟨f1, f2, by omega, by have h9 : n + 1 ≤ 128 ^ i := h4; rw [Nat.pow_succ]; have := Nat.mul_le_mul_right 128 h9; omega⟩, by show s.length < s.length + 1; omega, ?_, wHH⟩
            exact wKK
  · rw [num_dead he]
    refine wX ?_
    refine LoopN.unroll 1 ?_
    refine wX ?_
    refine callG (next_m rb st p) [0, 1, 2, 3, 4] rfl ⟨rfl, rfl, rfl, rfl, rfl, trivial⟩ rfl fun _ _ => ?_
    rw [next_dead he]
    refine wX ?_
    refine LdN.one (a := some ⟨rb, 0, none⟩) (q := 4) (.int .i64 st.e) rfl (fun w hw => hw.1) rfl ?_
    refine wX ?_
    refine brd_ne (fun _ => ?_) (fun h => absurd h he)
    refine wX ?_
    exact ⟨(), trivial, rfl, wkH_refl _⟩
theorem step128 (n c : Nat) (hn : n < 72057594037927936) : IntKind.i64.wrap (IntKind.i64.wrap ((n : Int) * 128) + IntKind.i64.wrap (((c : Nat) : Int).tmod 128)) = ((n * 128 + c % 128 : Nat) : Int) := by
 rw [Int.tmod_eq_emod_of_nonneg (by omega), wrap_i64 (x := (n : Int) * 128) (by omega), wrap_i64 (x := (c : Int) % 128) (by omega), wrap_i64 (by omega)]
 omega
theorem number_rd (rb : Nat) (S : List UInt8) (hS : S.length ≤ 1000000) (gv cv sv : Value) (st : PS) (hl : Left S st) (most : Nat) : SpecH Tryz.prog 98 [.c (.v (.pointer (some ⟨rb, 0, none⟩))), .c (.v (.int .i64 (most : Int)))] (ddE rb S gv cv sv st) (RetG (ι := Unit) (fun _ => True) (fun _ => .int .i64 ((numM most st).1 : Int)) fun _ => ddE rb S gv cv sv (numM most st).2) := by
  refine ownC hm Tryz.func98 (by kernel_rfl) rfl rfl (fun _ _ => ddE_ok _ _ _ _ _ _) (fun _ _ => Nat.le_refl _) ?_
  by_cases he : st.e = 0
  · obtain ⟨s0, g, cells, ss, e⟩ := st
    simp only at he
    subst he
    refine wX ?_
    refine LoopN.intro (Nat × Nat × List UInt8) (fun ⟨i, n, s⟩ => rdF most i n s = rdF most 0 0 s0 ∧ rdQ i s = rdQ 0 s0 ∧ i ≤ 9 ∧ n < 128 ^ i ∧ ∃ u, S = u ++ s)
      (fun ⟨i, n, _⟩ => mkS Tryz.f98.ntmps 0 [(0, .c (.v (.pointer (some ⟨rb, 0, none⟩)))), (1, .c (.v (.int .i64 (most : Int)))), (4, .c (.v (.int .i64 0))), (5, .c (.v (.int .i64 (n : Int)))), (6, .c (.v (.int .i64 (i : Int))))])
      (fun ⟨_, _, s⟩ => ddE rb S gv cv sv ⟨s, g, cells, ss, 0⟩) (fun ⟨_, _, s⟩ => s.length) [] rfl
      (fun _ => rfl) (fun _ => rfl) (fun _ _ => ddE_ok _ _ _ _ _ _) ⟨(0, 0, s0), ⟨rfl, rfl, by omega, by omega, hl⟩, ?_, wkH_refl _⟩ ?_
    · exact wKK
    rintro ⟨i, n, s⟩ ⟨h1, h2, h3, h4, hu⟩
    have hnx := next_r rb S hS gv cv sv ⟨s, g, cells, ss, 0⟩ hu
    cases s with
    | nil =>
      have e0 : numM most ⟨s0, g, cells, ss, 0⟩ = (0, ⟨[], g, cells, ss, 14⟩) := by
        unfold numM rd
        rw [if_neg (by show ¬ (0 : Int) ≠ 0; decide)]
        simp only
        rw [← h1, ← h2]
        rfl
      rw [e0]
      refine wX ?_
      refine LdN.one (a := some ⟨rb, 0, none⟩) (q := 5) (.int .i64 0) rfl (fun w hw => hw.1) rfl ?_
      refine wX ?_
      refine callG hnx [0] rfl ⟨rfl, trivial⟩ rfl fun _ _ => ?_
      refine wX ?_
      refine LdN.one (a := some ⟨rb, 0, none⟩) (q := 5) (.int .i64 14) rfl (fun w hw => hw.1) rfl ?_
      refine wX ?_
      exact ⟨(), trivial, rfl, wkH_refl _⟩
    | cons x s =>
      have hx128 : ((x.toNat : Int) == 128) = decide (x = 128) := by
        by_cases h : x = 128
        · subst h; rfl
        · rw [decide_eq_false h, beq_eq_false_iff_ne]
          intro h5
          exact h (UInt8.toNat_inj.1 (by have : x.toNat = 128 := by omega
                                         rw [this]; rfl))
      have bad : (i = 0 ∧ x = 128 ∨ 9 ≤ i) → numM most ⟨s0, g, cells, ss, 0⟩ = (0, ⟨s, g, cells, ss, 4⟩) := by
        intro hb
        unfold numM rd
        rw [if_neg (by show ¬ (0 : Int) ≠ 0; decide)]
        simp only
        rw [← h1, ← h2]
        unfold rdF rdQ
        rw [if_pos hb, if_pos hb]
      obtain ⟨u, hu⟩ := hu
      have hu2 : ∃ u, S = u ++ s := ⟨u ++ [x], by rw [hu]; simp⟩
      have hnx2 : SpecH Tryz.prog 84 [.c (.v (.pointer (some ⟨rb, 0, none⟩)))] (ddE rb S gv cv sv ⟨x :: s, g, cells, ss, 0⟩) (RetG (ι := Unit) (fun _ => True) (fun _ => .int .u8 (x.toNat : Int)) fun _ => ddE rb S gv cv sv ⟨s, g, cells, ss, 0⟩) := hnx
      refine wX ?_
      refine LdN.one (a := some ⟨rb, 0, none⟩) (q := 5) (.int .i64 0) rfl (fun w hw => hw.1) rfl ?_
      refine wX ?_
      refine callG hnx2 [0] rfl ⟨rfl, trivial⟩ rfl fun _ _ => ?_
      refine wX ?_
      refine LdN.one (a := some ⟨rb, 0, none⟩) (q := 5) (.int .i64 0) rfl (fun w hw => hw.1) rfl ?_
      refine wX ?_
      by_cases hb : i = 0 ∧ x = 128 ∨ 9 ≤ i
      · rw [bad hb]
        rcases hb with ⟨rfl, rfl⟩ | hb
        · refine wX ?_
          refine callG (fail_r rb S gv cv sv ⟨s, g, cells, ss, 0⟩ 4) [0] rfl ⟨rfl, trivial⟩ rfl fun _ _ => ?_
          refine wX ?_
          exact ⟨(), trivial, rfl, wkH_refl _⟩
        · obtain rfl : i = 9 := by omega
          refine wX ?_
          refine callG (fail_r rb S gv cv sv ⟨s, g, cells, ss, 0⟩ 4) [0] rfl ⟨rfl, trivial⟩ rfl fun _ _ => ?_
          refine wX ?_
          exact ⟨(), trivial, rfl, wkH_refl _⟩
      · have f1 := h1
        have f2 := h2
        rw [rdF_cons, if_neg hb] at f1
        rw [rdQ_cons, if_neg hb] at f2
        have hi8 : i ≤ 8 := by omega
        have hn56 : n < 72057594037927936 := Nat.lt_of_lt_of_le h4 (Nat.le_trans (Nat.pow_le_pow_right (by decide) hi8) (by decide))
        by_cases hi : i = 0
        · subst hi
          have hx : x ≠ 128 := fun h => hb (.inl ⟨rfl, h⟩)
          refine wX ?_
          rw [hx128, decide_eq_false hx]
          refine wX ?_
          rw [step128 n x.toNat hn56]
          refine brd_dec (fun h5 => ?_) (fun h5 => ?_)
          · have h6 : x.toNat < 128 := by omega
            rw [if_pos h6] at f1 f2
            refine wX ?_
            refine brd_dec (fun h7 => ?_) (fun h7 => ?_)
            · have e0 : numM most ⟨s0, g, cells, ss, 0⟩ = (0, ⟨s, g, cells, ss, 4⟩) := by
                unfold numM rd
                rw [if_neg (by show ¬ (0 : Int) ≠ 0; decide)]
                simp only
                rw [← f1, ← f2, if_neg (by omega)]
              rw [e0]
              refine wX ?_
              refine callG (fail_r rb S gv cv sv ⟨s, g, cells, ss, 0⟩ 4) [0] rfl ⟨rfl, trivial⟩ rfl fun _ _ => ?_
              refine wX ?_
              exact ⟨(), trivial, rfl, wkH_refl _⟩
            · have e0 : numM most ⟨s0, g, cells, ss, 0⟩ = (n * 128 + x.toNat % 128, ⟨s, g, cells, ss, 0⟩) := by
                unfold numM rd
                rw [if_neg (by show ¬ (0 : Int) ≠ 0; decide)]
                simp only
                rw [← f1, ← f2, if_pos (by omega)]
              rw [e0]
              refine wX ?_
              exact ⟨(), trivial, rfl, wkH_refl _⟩
          · have h6 : ¬ x.toNat < 128 := by omega
            rw [if_neg h6] at f1 f2
            refine wX ?_
            refine ⟨(0 + 1, n * 128 + x.toNat % 128, s), ⟨f1, f2, by omega, by have h9 : n + 1 ≤ 128 ^ 0 := h4; rw [Nat.pow_succ]; have := Nat.mul_le_mul_right 128 h9; omega, hu2⟩, by show s.length < s.length + 1; omega, ?_, wHH⟩
            exact wKK
        · refine wX ?_
          rw [show ((i : Int) == 0) = false by rw [beq_eq_false_iff_ne]; omega]
          refine wX ?_
          rw [show decide ((i : Int) ≥ 9) = false by rw [decide_eq_false_iff_not]; omega]
          refine wX ?_
          rw [step128 n x.toNat hn56]
          refine brd_dec (fun h5 => ?_) (fun h5 => ?_)
          · have h6 : x.toNat < 128 := by omega
            rw [if_pos h6] at f1 f2
            refine wX ?_
            refine brd_dec (fun h7 => ?_) (fun h7 => ?_)
            · have e0 : numM most ⟨s0, g, cells, ss, 0⟩ = (0, ⟨s, g, cells, ss, 4⟩) := by
                unfold numM rd
                rw [if_neg (by show ¬ (0 : Int) ≠ 0; decide)]
                simp only
                rw [← f1, ← f2, if_neg (by omega)]
              rw [e0]
              refine wX ?_
              refine callG (fail_r rb S gv cv sv ⟨s, g, cells, ss, 0⟩ 4) [0] rfl ⟨rfl, trivial⟩ rfl fun _ _ => ?_
              refine wX ?_
              exact ⟨(), trivial, rfl, wkH_refl _⟩
            · have e0 : numM most ⟨s0, g, cells, ss, 0⟩ = (n * 128 + x.toNat % 128, ⟨s, g, cells, ss, 0⟩) := by
                unfold numM rd
                rw [if_neg (by show ¬ (0 : Int) ≠ 0; decide)]
                simp only
                rw [← f1, ← f2, if_pos (by omega)]
              rw [e0]
              refine wX ?_
              exact ⟨(), trivial, rfl, wkH_refl _⟩
          · have h6 : ¬ x.toNat < 128 := by omega
            rw [if_neg h6] at f1 f2
            refine wX ?_
            refine ⟨(i + 1, n * 128 + x.toNat % 128, s), ⟨f1, f2, by omega, by have h9 : n + 1 ≤ 128 ^ i := h4; rw [Nat.pow_succ]; have := Nat.mul_le_mul_right 128 h9; omega, hu2⟩, by show s.length < s.length + 1; omega, ?_, wHH⟩
            exact wKK
  · rw [num_dead he]
    refine wX ?_
    refine LoopN.unroll 1 ?_
    refine wX ?_
    refine LdN.one (a := some ⟨rb, 0, none⟩) (q := 5) (.int .i64 st.e) rfl (fun w hw => hw.1) rfl ?_
    refine wX ?_
    refine brd_eq (fun h => absurd h he) (fun _ => ?_)
    refine wX ?_
    exact ⟨(), trivial, rfl, wkH_refl _⟩
theorem text_rd (rb : Nat) (st : PS) (p : RdP) (most : Nat) : SpecH Tryz.prog 104 [.c (.v (.pointer (some ⟨rb, 0, none⟩))), .c (.v (.int .i64 (most : Int)))] (rdE rb st p) (RetG (ι := Unit) (fun _ => True) (fun _ => .string (bs (textM most st).1)) fun _ => rdE rb (textM most st).2 p) := by
 refine ownC hm Tryz.func104 (by kernel_rfl) rfl rfl (fun _ _ => rdE_ok _ _ _) (fun _ _ => Nat.le_refl _) ?_
 have hnum := number_m rb st p maxN (by decide)
 unfold textM
 generalize numM maxN st = q at hnum ⊢
 obtain ⟨n, st1⟩ := q
 simp only at hnum ⊢
 refine wX ?_
 refine callG (hnum) [0, 1, 2, 3, 4] rfl ⟨rfl, rfl, rfl, rfl, rfl, trivial⟩ rfl fun _ _ => ?_
 refine wX ?_
 refine LdN.one (a := some ⟨rb, 0, none⟩) (q := 4) (.int .i64 st1.e) rfl (fun w hw => hw.1) rfl ?_
 refine wX ?_
 refine brd_ne (fun h1 => ?_) (fun h1 => ?_)
 ·rw [if_pos h1]
  refine wX ?_
  exact ⟨(), trivial, rfl, wkH_refl _⟩
 rw [if_neg (fun h => h h1)]
 have e4 : ∀ e : Int, ({ st1 with e := e } : PS) = failM st1 e := fun e => by unfold failM; rw [if_pos h1]
 rw [e4 4, e4 14]
 refine wX ?_
 refine brd_dec (fun h2 => ?_) (fun h2 => ?_)
 ·rw [if_pos (by omega)]
  refine wX ?_
  refine callG (fail_m rb st1 p 4) [0, 1, 2, 3, 4] rfl ⟨rfl, rfl, rfl, rfl, rfl, trivial⟩ rfl fun _ _ => ?_
  refine wX ?_
  exact ⟨(), trivial, rfl, wkH_refl _⟩
 rw [if_neg (by omega)]
 refine wX ?_
 refine LdN.one (a := some ⟨rb, 0, none⟩) (q := 0) (.string (bs st1.s)) rfl (fun w hw => hw.1) rfl ?_
 refine wX ?_
 have hsz := bs_size st1.s
 refine brd_dec (fun h3 => ?_) (fun h3 => ?_)
 ·rw [if_pos (by omega)]
  refine wX ?_
  refine callG (fail_m rb st1 p 14) [0, 1, 2, 3, 4] rfl ⟨rfl, rfl, rfl, rfl, rfl, trivial⟩ rfl fun _ _ => ?_
  refine wX ?_
  exact ⟨(), trivial, rfl, wkH_refl _⟩
 rw [if_neg (by omega)]
 refine wX ?_
 refine LdN.one (a := some ⟨rb, 0, none⟩) (q := 0) (.string (bs st1.s)) rfl (fun w hw => hw.1) rfl ?_
 refine wX ?_
 refine ReadW.str_h rfl (by kernel_rfl) rfl rfl ⟨by omega, by omega⟩ ?_
 rw [bs_take, Int.toNat_natCast]
 refine wX ?_
 refine LdN.one (a := some ⟨rb, 0, none⟩) (q := 0) (.string (bs st1.s)) rfl (fun w hw => hw.1) rfl ?_
 refine wX ?_
 refine ReadW.str_l rfl (by kernel_rfl) rfl rfl ⟨by omega, by omega⟩ ?_
 have e1 : (bs st1.s).extract (Int.toNat (n : Int)) (bs st1.s).size = bs (st1.s.drop n) := by rw [bs_size, Int.toNat_natCast]; exact bs_drop st1.s n
 rw [e1]
 refine wX ?_
 refine EffW.appTo (i := 0) (q := 0) (ys := [_]) (rdC ({ st1 with s := st1.s.drop n }) p) 5 rfl rfl rfl rfl rfl rfl rfl (Nat.le_of_ble_eq_true rfl) rfl rfl ?_
 refine wX ?_
 exact ⟨(), trivial, rfl, wkH_refl _⟩
theorem SIndex_m (a : Option Addr) (l : List (List UInt8)) (cap : Nat) (s : List UInt8) (ha : a = none → l = []) (hl : l.length ≤ 1000000) :
  ∀ H, (∀ w, Facts H w → SlAt a (l.length * 1) (strC l) w) → SpecH Tryz.prog 151 (pvs [.slice a l.length cap, .string (bs s)]) H (RetR (fun v => ∃ n : Int, v = .int .i64 n ∧ (0 ≤ n ↔ s ∈ l)) H) := by
 refine factR hm Tryz.func151 (by kernel_rfl) rfl rfl ?_
 refine wX ?_
 refine loopS Nat (fun i => i ≤ l.length ∧ s ∉ l.take i) (fun i => mkS Tryz.f151.ntmps 0 [(0, .c (.v (.slice a l.length cap))), (1, .c (.v (.string (bs s)))), (7, .c (.v (.int .i64 (l.length : Int)))), (8, .c (.v (.int .i64 (i : Int))))]) (fun i => l.length - i) rfl (fun _ => rfl) 0 ⟨Nat.zero_le _, by simp⟩ ?_ ?_
 ·exact wKK
 intro i ⟨hi, hno⟩
 refine wX ?_
 refine brd_dec (fun h1 => ?_) (fun h1 => ?_)
 ·obtain ⟨t, ht⟩ : ∃ t, l[i]? = some t := ⟨_, List.getElem?_eq_getElem (by omega)⟩
  have hsa : a.isSome = true := by
   cases a with
   | none => rw [ha rfl] at ht; cases ht
   | some b => rfl
  refine wX ?_
  refine Nd.mk ⟨hsa, by omega, by omega⟩ ?_
  refine wX ?_
  refine LdN.one (.string (bs t)) rfl (fun w hw => hw.1) (by show (strC l)[Int.toNat _ * 1]? = _; rw [Int.toNat_natCast, Nat.mul_one]; exact strC_get ht) ?_
  refine wX ?_
  refine brd_intro (fun h2 => ?_) (fun h2 => ?_)
  ·have h3 : s = t := eq_of_beq (show (s == t) = true from h2)
   refine wX ?_
   refine ⟨_, rfl, (i : Int), rfl, ⟨fun _ => ?_, fun _ => by omega⟩⟩
   rw [h3]
   exact List.mem_of_getElem? ht
  ·have h3 : (s == t) = false := h2
   refine wX ?_
   refine ⟨i + 1, ⟨by omega, ?_⟩, by omega, ?_, wHH⟩
   ·rw [List.take_add_one, ht]
    simp only [Option.toList_some, List.mem_append, List.mem_singleton, not_or]
    exact ⟨hno, by simpa using h3⟩
   ·exact wKK
 ·have hie : i = l.length := by omega
  subst hie
  rw [List.take_length] at hno
  refine wX ?_
  exact ⟨_, rfl, -1, rfl, ⟨fun h => absurd h (by decide), fun h => absurd h hno⟩⟩
theorem Contains_m (a : Option Addr) (l : List (List UInt8)) (cap : Nat) (s : List UInt8) (ha : a = none → l = []) (hl : l.length ≤ 1000000) :
  ∀ H, (∀ w, Facts H w → SlAt a (l.length * 1) (strC l) w) → SpecH Tryz.prog 130 (pvs [.slice a l.length cap, .string (bs s)]) H (Ret (.bool (decide (s ∈ l))) H) := by
 refine factC hm Tryz.func130 (by kernel_rfl) rfl rfl ?_
 refine wX ?_
 refine callR (SIndex_m a l cap s ha hl _ (fun w hw => hw.1)) fun v hv => ?_
 obtain ⟨n, rfl, hn⟩ := hv
 refine wX ?_
 refine ret_b ?_
 rw [decide_eq_true_eq, decide_eq_true_eq]
 exact hn
structure RdOk (st : PS) (p : RdP) : Prop where
 g : p.m.map (·.c) = st.g
 cell : ∀ q ∈ p.m, CellOk q
 ga : p.ga = none → p.m = []
 ca : p.ca = none → st.cells = []
 sa : p.sa = none → st.ss = []
 sw : ∀ t ∈ st.ss, t.length ≤ 30000
 gx : p.ga = none ∨ ∃ b : Nat, p.ga = some ⟨b, 0, none⟩
theorem fail_ss (st : PS) (e : Int) : (failM st e).ss = st.ss ∧ (failM st e).g = st.g ∧ (failM st e).cells = st.cells := by unfold failM; split <;> exact ⟨rfl, rfl, rfl⟩
theorem fail_s (st : PS) (e : Int) : (failM st e).s = st.s := by unfold failM; split <;> rfl
theorem num_keep (most : Nat) (st : PS) : (numM most st).2.ss = st.ss ∧ (numM most st).2.g = st.g ∧ (numM most st).2.cells = st.cells := by
 unfold numM
 split
 ·exact ⟨rfl, rfl, rfl⟩
 split <;> exact ⟨rfl, rfl, rfl⟩
theorem text_keep (most : Nat) (st : PS) : (textM most st).2.ss = st.ss ∧ (textM most st).2.g = st.g ∧ (textM most st).2.cells = st.cells := by
 have h := num_keep maxN st
 unfold textM
 split
 ·exact h
 split
 ·exact h
 split <;> exact h
theorem symbol_rd (rb : Nat) (x : UInt8) (st : PS) (p : RdP) (ok : RdOk st p) (hss : st.ss.length < 100000) : SpecH Tryz.prog 105 [.c (.v (.pointer (some ⟨rb, 0, none⟩))), .c (.v (.int .u8 (x.toNat : Int)))] (rdE rb st p) (RetG (ι := Option Addr × Nat) (fun i => i.1 = none → (symM x st).2.ss = []) (fun _ => .string (bs (symM x st).1)) fun i => rdE rb (symM x st).2 { p with sa := i.1, sc := i.2 }) := by
  refine ownC hm Tryz.func105 (by kernel_rfl) rfl rfl (fun _ _ => rdE_ok _ _ _) (fun _ _ => Nat.le_refl _) ?_
  have htext := text_rd rb st p 40
  have hnum := number_m rb st p maxN (by decide)
  have kt := text_keep 40 st
  have kn := num_keep maxN st
  unfold symM
  generalize textM 40 st = qt at htext kt ⊢
  generalize numM maxN st = qn at hnum kn ⊢
  obtain ⟨t, st1⟩ := qt
  obtain ⟨n, st2⟩ := qn
  simp only at htext hnum kt kn ⊢
  by_cases h58 : x = 58
  · subst h58
    rw [if_pos rfl]
    have hsa : p.sa = none → st1.ss = [] := fun h => by rw [kt.1]; exact ok.sa h
    have hl1 : st1.ss.length < 100000 := by rw [kt.1]; exact hss
    refine wX ?_
    refine callG (htext) [0, 1, 2, 3, 4] rfl ⟨rfl, rfl, rfl, rfl, rfl, trivial⟩ rfl fun _ _ => ?_
    refine wX ?_
    refine LdN.one (a := some ⟨rb, 0, none⟩) (q := 4) (.int .i64 st1.e) rfl (fun w hw => hw.1) rfl ?_
    refine wX ?_
    by_cases he : st1.e = 0
    · rw [show (st1.e == 0) = true by rw [he]; rfl]
      refine wX ?_
      refine LdN.one (a := some ⟨rb, 0, none⟩) (q := 3) (.slice p.sa st1.ss.length p.sc) rfl (fun w hw => hw.1) rfl ?_
      refine wX ?_
      refine call1 (Contains_m p.sa st1.ss p.sc t hsa (by omega) _ (fun w hw => hw.2.2.2.2.1)) ?_
      refine wX ?_
      refine brd_dec (fun hm => ?_) (fun hm => ?_)
      · refine wX ?_
        refine callG (fail_m rb st1 p 4) [0, 1, 2, 3, 4] rfl ⟨rfl, rfl, rfl, rfl, rfl, trivial⟩ rfl fun _ _ => ?_
        rw [if_pos ⟨he, hm⟩, show ({ failM st1 4 with ss := st1.ss ++ [t] } : PS) = { failM st1 4 with ss := (failM st1 4).ss ++ [t] } by rw [(fail_ss st1 4).1]]
        have hl2 : (failM st1 4).ss.length < 100000 := by rw [(fail_ss st1 4).1]; exact hl1
        generalize failM st1 4 = st3 at hl2 ⊢
        refine wX ?_
        refine LdN.one (a := some ⟨rb, 0, none⟩) (q := 3) (.slice p.sa (st3).ss.length p.sc) rfl (fun w hw => hw.1) rfl ?_
        refine wX ?_
        refine Nd.mk ⟨Nat.le_refl 1, rfl, rfl⟩ ?_
        (conv => whnf)
        refine AppN.grow 4 (strC (st3).ss) [.string (bs t)] rfl rfl ⟨Nat.le_refl 1, ⟨by show ((st3).ss.length + 1) * 16 ≤ _; omega, by omega⟩, by decide⟩ fun b' cap' h1 h2 => ?_
        refine wX ?_
        refine EffW.appTo (i := 0) (q := 3) (ys := [_]) (rdC { (st3) with ss := (st3).ss ++ [t] } { p with sa := some ⟨b', 0, none⟩, sc := cap' }) 5 rfl rfl rfl rfl rfl rfl rfl (Nat.le_of_ble_eq_true rfl) (by simp [rdC]) rfl ?_
        refine wX ?_
        refine ⟨(some ⟨b', 0, none⟩, cap'), (fun h => by cases h), rfl, wkE_refl _, wkE_refl _, wkE_refl _, wkE_refl _, ?_, trivial⟩
        rw [show strC (st3).ss ++ [.string (bs t)] = strC ((st3).ss ++ [t]) by simp [strC], show (st3).ss.length + 1 = ((st3).ss ++ [t]).length by simp]
        exact wkE_refl _
      · rw [if_neg (fun h => hm h.2)]
        refine wX ?_
        refine LdN.one (a := some ⟨rb, 0, none⟩) (q := 3) (.slice p.sa (st1).ss.length p.sc) rfl (fun w hw => hw.1) rfl ?_
        refine wX ?_
        refine Nd.mk ⟨Nat.le_refl 1, rfl, rfl⟩ ?_
        (conv => whnf)
        refine AppN.grow 4 (strC (st1).ss) [.string (bs t)] rfl rfl ⟨Nat.le_refl 1, ⟨by show ((st1).ss.length + 1) * 16 ≤ _; omega, by omega⟩, by decide⟩ fun b' cap' h1 h2 => ?_
        refine wX ?_
        refine EffW.appTo (i := 0) (q := 3) (ys := [_]) (rdC { (st1) with ss := (st1).ss ++ [t] } { p with sa := some ⟨b', 0, none⟩, sc := cap' }) 5 rfl rfl rfl rfl rfl rfl rfl (Nat.le_of_ble_eq_true rfl) (by simp [rdC]) rfl ?_
        refine wX ?_
        refine ⟨(some ⟨b', 0, none⟩, cap'), (fun h => by cases h), rfl, wkE_refl _, wkE_refl _, wkE_refl _, wkE_refl _, ?_, trivial⟩
        rw [show strC (st1).ss ++ [.string (bs t)] = strC ((st1).ss ++ [t]) by simp [strC], show (st1).ss.length + 1 = ((st1).ss ++ [t]).length by simp]
        exact wkE_refl _
    · rw [show (st1.e == 0) = false by simpa using he, if_neg (fun h => he h.1)]
      refine wX ?_
      refine LdN.one (a := some ⟨rb, 0, none⟩) (q := 3) (.slice p.sa (st1).ss.length p.sc) rfl (fun w hw => hw.1) rfl ?_
      refine wX ?_
      refine Nd.mk ⟨Nat.le_refl 1, rfl, rfl⟩ ?_
      (conv => whnf)
      refine AppN.grow 4 (strC (st1).ss) [.string (bs t)] rfl rfl ⟨Nat.le_refl 1, ⟨by show ((st1).ss.length + 1) * 16 ≤ _; omega, by omega⟩, by decide⟩ fun b' cap' h1 h2 => ?_
      refine wX ?_
      refine EffW.appTo (i := 0) (q := 3) (ys := [_]) (rdC { (st1) with ss := (st1).ss ++ [t] } { p with sa := some ⟨b', 0, none⟩, sc := cap' }) 5 rfl rfl rfl rfl rfl rfl rfl (Nat.le_of_ble_eq_true rfl) (by simp [rdC]) rfl ?_
      refine wX ?_
      refine ⟨(some ⟨b', 0, none⟩, cap'), (fun h => by cases h), rfl, wkE_refl _, wkE_refl _, wkE_refl _, wkE_refl _, ?_, trivial⟩
      rw [show strC (st1).ss ++ [.string (bs t)] = strC ((st1).ss ++ [t]) by simp [strC], show (st1).ss.length + 1 = ((st1).ss ++ [t]).length by simp]
      exact wkE_refl _
  by_cases h59 : x = 59
  · subst h59
    rw [if_neg (by decide), if_pos rfl]
    refine wX ?_
    refine callG (hnum) [0, 1, 2, 3, 4] rfl ⟨rfl, rfl, rfl, rfl, rfl, trivial⟩ rfl fun _ _ => ?_
    refine wX ?_
    refine LdN.one (a := some ⟨rb, 0, none⟩) (q := 4) (.int .i64 st2.e) rfl (fun w hw => hw.1) rfl ?_
    refine wX ?_
    by_cases he : st2.e = 0
    · rw [show (st2.e == 0) = true by rw [he]; rfl]
      refine wX ?_
      refine LdN.one (a := some ⟨rb, 0, none⟩) (q := 3) (.slice p.sa st2.ss.length p.sc) rfl (fun w hw => hw.1) rfl ?_
      refine wX ?_
      refine brd_dec (fun hlt => ?_) (fun hlt => ?_)
      · have hn : n < st2.ss.length := by omega
        rw [if_pos ⟨he, hn⟩]
        have hsa : p.sa.isSome = true := by
          cases h : p.sa with
          | none =>
            have := ok.sa h
            rw [kn.1, this] at hn
            exact absurd hn (Nat.not_lt_zero _)
          | some b => rfl
        have hget : st2.ss[n]? = some (st2.ss.getD n []) := by rw [List.getD_eq_getElem?_getD, List.getElem?_eq_getElem hn]; rfl
        refine wX ?_
        refine LdN.one (a := some ⟨rb, 0, none⟩) (q := 3) (.slice p.sa st2.ss.length p.sc) rfl (fun w hw => hw.1) rfl ?_
        refine wX ?_
        refine Nd.mk ⟨hsa, by omega, by omega⟩ ?_
        refine wX ?_
        refine LdN.one (.string (bs (st2.ss.getD n []))) rfl (fun w hw => hw.2.2.2.2.1) (by show (strC st2.ss)[Int.toNat _ * 1]? = _; rw [Int.toNat_natCast, Nat.mul_one]; exact strC_get hget) ?_
        refine wX ?_
        exact ⟨(p.sa, p.sc), (fun h => by show st2.ss = []; rw [kn.1]; exact ok.sa h), rfl, wkH_refl _⟩
      · rw [if_neg (fun h => hlt (by omega))]
        refine wX ?_
        refine callG (fail_m rb st2 p 4) [0, 1, 2, 3, 4] rfl ⟨rfl, rfl, rfl, rfl, rfl, trivial⟩ rfl fun _ _ => ?_
        refine wX ?_
        exact ⟨(p.sa, p.sc), (fun h => by rw [(fail_ss _ _).1, kn.1]; exact ok.sa h), rfl, wkH_refl _⟩
    · rw [show (st2.e == 0) = false by simpa using he, if_neg (fun h => he h.1)]
      refine wX ?_
      refine callG (fail_m rb st2 p 4) [0, 1, 2, 3, 4] rfl ⟨rfl, rfl, rfl, rfl, rfl, trivial⟩ rfl fun _ _ => ?_
      refine wX ?_
      exact ⟨(p.sa, p.sc), (fun h => by rw [(fail_ss _ _).1, kn.1]; exact ok.sa h), rfl, wkH_refl _⟩
  · rw [if_neg h58, if_neg h59]
    have e1 : ((x.toNat : Int) == 58) = false := by
      rw [beq_eq_false_iff_ne]
      intro h5
      exact h58 (UInt8.toNat_inj.1 (by have : x.toNat = 58 := by omega
                                       rw [this]; rfl))
    have e2 : ((x.toNat : Int) == 59) = false := by
      rw [beq_eq_false_iff_ne]
      intro h5
      exact h59 (UInt8.toNat_inj.1 (by have : x.toNat = 59 := by omega
                                       rw [this]; rfl))
    refine wX ?_
    rw [e1]
    refine wX ?_
    rw [e2]
    refine wX ?_
    refine callG (fail_m rb st p 4) [0, 1, 2, 3, 4] rfl ⟨rfl, rfl, rfl, rfl, rfl, trivial⟩ rfl fun _ _ => ?_
    refine wX ?_
    exact ⟨(p.sa, p.sc), (fun h => by rw [(fail_ss _ _).1]; exact ok.sa h), rfl, wkH_refl _⟩
def CellC (n : Nat) : Prop := ∀ (rb : Nat) (st : PS) (p : RdP), RdOk st p → Bd st → (st.s.length < n ∨ st.e ≠ 0) → SpecH Tryz.prog 64 [.c (.v (.pointer (some ⟨rb, 0, none⟩)))] (rdE rb st p) (RetG (ι := RdP) (fun p' => RdOk (cellM n st).2 p') (fun _ => .int .i64 (cellM n st).1) fun p' => rdE rb (cellM n st).2 p')
def ownI (l : List Int) (a : Option Addr) (cap : Nat) : Ent := .app 3 1 (iC l) a l.length cap
structure ItP where
 i : Nat
 l : List Int
 st : PS
 p : RdP
 a : Option Addr
 cap : Nat
theorem items_rd (n : Nat) (hc : CellC n) (rb : Nat) (st : PS) (p : RdP) (ok : RdOk st p) (bd : Bd st) (hn : st.s.length < n ∨ st.e ≠ 0) (m : Nat) (hm2 : m ≤ 4000000000000000) : SpecH Tryz.prog 106 [.c (.v (.pointer (some ⟨rb, 0, none⟩))), .c (.v (.int .i64 (m : Int)))] (rdE rb st p ++ [.app 3 1 [] none 0 0]) (RetG (ι := RdP × Option Addr × Nat) (fun i => RdOk (itemsM (cellM n) m [] st).2 i.1 ∧ (i.2.1 = none → (itemsM (cellM n) m [] st).1 = []) ∧ (itemsM (cellM n) m [] st).1.length ≤ i.2.2) (fun i => .slice i.2.1 (itemsM (cellM n) m [] st).1.length i.2.2) fun i => rdE rb (itemsM (cellM n) m [] st).2 i.1 ++ [ownI (itemsM (cellM n) m [] st).1 i.2.1 i.2.2]) := by
 refine ownC hm Tryz.func106 (by kernel_rfl) rfl rfl (fun _ _ => okHB_eq rfl) (fun _ _ => Nat.le_of_ble_eq_true rfl) ?_
 have hI : ∀ k l st', itemsM (cellM n) (k + 1) l st' = if st'.e = 0 then itemsM (cellM n) k (l ++ [(cellM n st').1]) (cellM n st').2 else (l, st') := fun k l st' => by conv => lhs; unfold itemsM
 obtain ⟨R, hR⟩ : ∃ R, itemsM (cellM n) m [] st = R := ⟨_, rfl⟩
 rw [hR]
 have htk := cell_takes n
 refine wX ?_
 refine LoopN.intro ItP (fun ⟨i, l, st, p, a, cap⟩ => itemsM (cellM n) (m - i) l st = R ∧ i ≤ m ∧ RdOk st p ∧ Bd st ∧ (st.s.length < n ∨ st.e ≠ 0) ∧ l.length + st.s.length + liv st ≤ 30001 ∧ (a = none → l = []) ∧ l.length ≤ cap)
  (fun ⟨i, l, _, _, a, cap⟩ => mkS Tryz.f106.ntmps 0 [(0, .c (.v (.pointer (some ⟨rb, 0, none⟩)))), (1, .c (.v (.int .i64 (m : Int)))), (4, .c (.v (.slice none 0 0))), (5, .c (.v (.slice a l.length cap))), (6, .c (.v (.int .i64 (i : Int))))])
  (fun ⟨_, l, st, p, a, cap⟩ => rdE rb st p ++ [ownI l a cap]) (fun ⟨_, _, st, _, _, _⟩ => if st.e = 0 then st.s.length + 1 else 0) [] rfl
  (fun _ => rfl) (fun _ => rfl) (fun _ _ => okHB_eq rfl) ⟨⟨0, [], st, p, none, 0⟩, ⟨hR, Nat.zero_le _, ok, bd, hn, ?_, fun _ => rfl, Nat.le_refl _⟩, ?_, wkH_refl _⟩ ?_
 ·have := bd.pot
  unfold liv
  show 0 + st.s.length + _ ≤ _
  split <;> omega
 ·exact wKK
 rintro ⟨i, l, st1, p1, a, cap⟩ ⟨h1, h2, h3, h4, h5, h6, h7, h8⟩
 refine wX ?_
 by_cases hi : i < m
 ·rw [show decide ((i : Int) < (m : Int)) = true by simpa using hi]
  obtain ⟨k, hk⟩ : ∃ k, m - i = k + 1 := ⟨m - i - 1, by omega⟩
  rw [hk, hI] at h1
  refine wX ?_
  refine LdN.one (a := some ⟨rb, 0, none⟩) (q := 4) (.int .i64 st1.e) rfl (fun w hw => hw.1) rfl ?_
  refine wX ?_
  by_cases he : st1.e = 0
  ·rw [show (st1.e == 0) = true by rw [he]; rfl]
   rw [if_pos he] at h1
   refine wX ?_
   refine callG (hc rb st1 p1 h3 h4 h5) [0, 1, 2, 3, 4] rfl ⟨rfl, rfl, rfl, rfl, rfl, trivial⟩ rfl fun p2 hp2 => ?_
   have hle := htk.le st1
   have hlt := htk.lt st1
   have hll : l.length ≤ 30001 := by omega
   generalize cellM n st1 = r at h1 hp2 hle hlt ⊢
   obtain ⟨z, st2⟩ := r
   simp only at h1 hp2 hle hlt
   refine wX ?_
   refine Nd.mk ⟨Nat.le_refl 1, rfl, rfl⟩ ?_
   (conv => whnf)
   refine AppN.grow 5 (iC l) [.int .i64 z] rfl rfl ⟨Nat.le_refl 1, ⟨by show (l.length + 1) * 8 ≤ _; omega, by omega⟩, by decide⟩ fun b' cap' g1 g2 => ?_
   refine wX ?_
   have e1 : iC l ++ [.int .i64 z] = iC (l ++ [z]) := by simp [iC]
   have e2 : l.length + 1 = (l ++ [z]).length := by simp
   rw [e1, e2]
   refine ⟨⟨i + 1, l ++ [z], st2, p2, some ⟨b', 0, none⟩, cap'⟩, ⟨by rw [← h1, show m - (i + 1) = k by omega], by show i + 1 ≤ m; omega, hp2, h4.le hle, ?_, ?_, (fun h => by cases h), by rw [← e2]; exact g1⟩, ?_, ?_, ?_⟩
   ·show st2.s.length < n ∨ _
    have := hle.s
    rcases h5 with h | h
    ·left; omega
    ·exact absurd he h
   ·show (l ++ [z]).length + st2.s.length + liv st2 ≤ _
    rw [List.length_append, List.length_singleton]
    have hs := hle.s
    unfold liv at h6 ⊢
    rw [if_pos he] at h6
    split
    ·rename_i h9
     have := hlt h9
     omega
    ·omega
   ·show (if st2.e = 0 then st2.s.length + 1 else 0) < if st1.e = 0 then st1.s.length + 1 else 0
    rw [if_pos he]
    split
    ·rename_i h9
     have := hlt h9
     omega
    ·omega
   ·exact wKK
   ·exact ⟨wkE_refl _, wkE_refl _, wkE_refl _, wkE_refl _, wkE_refl _, wkE_refl _, wkH_nil _⟩
  ·rw [show (st1.e == 0) = false by simpa using he]
   rw [if_neg he] at h1
   subst h1
   refine wX ?_
   exact ⟨(p1, a, cap), ⟨h3, h7, h8⟩, rfl, wkH_refl _⟩
 ·rw [show decide ((i : Int) < (m : Int)) = false by simpa using hi]
  rw [show m - i = 0 by omega] at h1
  have h1 : (l, st1) = R := h1
  subst h1
  refine wX ?_
  exact ⟨(p1, a, cap), ⟨h3, h7, h8⟩, rfl, wkH_refl _⟩
end Go.Proofs.YtgogonnnojcioaaGreatDoor
namespace Go.Marshal
open Go.Core
theorem text_len (most : Nat) (st : PS) : (textM most st).1.length ≤ st.s.length := by
 have h := (num_le maxN st).s
 unfold textM
 split
 ·simp
 split
 ·simp
 split
 ·simp
 ·rw [List.length_take]
  omega
theorem next_keep (st : PS) : (nextM st).2.ss = st.ss ∧ (nextM st).2.g = st.g ∧ (nextM st).2.cells = st.cells := by
 unfold nextM
 split
 ·exact ⟨rfl, rfl, rfl⟩
 split <;> exact ⟨rfl, rfl, rfl⟩
theorem symM_len (x : UInt8) (st : PS) (hs : st.s.length ≤ 30000) (hw : ∀ t ∈ st.ss, t.length ≤ 30000) : (symM x st).1.length ≤ 30000 := by
 unfold symM
 split
 ·exact Nat.le_trans (text_len 40 st) hs
 split
 ·split
  ·rename_i h
   have hk : (numM maxN st).2.ss = st.ss := by
    unfold numM
    split
    ·rfl
    split <;> rfl
   rw [hk] at h ⊢
   rw [List.getD_eq_getElem?_getD, List.getElem?_eq_getElem h.2]
   exact hw _ (List.getElem_mem _)
  ·exact Nat.zero_le _
 ·exact Nat.zero_le _
theorem valid_one {c : Cell} (hk : c.kind = 8) : ValidP [c] ↔ (plainS c && rangeB 1 c) = true := by
 unfold ValidP
 constructor
 ·intro ⟨_, h, _⟩
  have := h c (by simp)
  rw [cell_eq]
  exact this
 ·intro h
  refine ⟨by simp, fun d hd => ?_, fun d hd h7 => ?_⟩
  ·obtain rfl := List.mem_singleton.1 hd
   rw [cell_eq] at h
   exact h
  ·obtain rfl := List.mem_singleton.1 hd
   rw [hk] at h7
   exact absurd h7 (by decide)
theorem valid_class (t : B) : ValidP [⟨8, 0, t, [], []⟩] ↔ Go.Scan.icB t = true := by
 rw [valid_one rfl]
 unfold plainS rangeB
 simp [maxI]
theorem valid_name (t : B) : ValidP [⟨8, 0, [65], [t], [0]⟩] ↔ Go.Scan.iiB t = true := by
 rw [valid_one rfl]
 unfold plainS rangeB
 have h : Go.Scan.icB [65] = true := by decide +kernel
 simp [maxI, h]
end Go.Marshal
namespace Go.Proofs.YtgogonnnojcioaaGreatDoor
open Go.AX Go.RowKit Go.Core Go.Marshal
set_option maxRecDepth 20000
theorem RdOk.same {st st' : PS} {p : RdP} (ok : RdOk st p) (h : st'.ss = st.ss ∧ st'.g = st.g ∧ st'.cells = st.cells) : RdOk st' p :=
 ⟨by rw [h.2.1]; exact ok.g, ok.cell, ok.ga, by rw [h.2.2]; exact ok.ca, by rw [h.1]; exact ok.sa, by rw [h.1]; exact ok.sw, ok.gx⟩
theorem sym_keep (x : UInt8) (st : PS) : (symM x st).2.g = st.g ∧ (symM x st).2.cells = st.cells := by
 have kt := text_keep 40 st
 have kn := num_keep maxN st
 unfold symM
 split
 ·simp only
  split
  ·have k4 := fail_ss (textM 40 st).2 4
   exact ⟨by rw [k4.2.1, kt.2.1], by rw [k4.2.2, kt.2.2]⟩
  ·exact kt.2
 split
 ·split
  ·exact kn.2
  ·have k4 := fail_ss (numM maxN st).2 4
   exact ⟨by rw [k4.2.1, kn.2.1], by rw [k4.2.2, kn.2.2]⟩
 ·exact (fail_ss st 4).2
theorem sym_sw (x : UInt8) (st : PS) (hs : st.s.length ≤ 30000) (hw : ∀ t ∈ st.ss, t.length ≤ 30000) : ∀ t ∈ (symM x st).2.ss, t.length ≤ 30000 := by
 have kt := text_keep 40 st
 have kn := num_keep maxN st
 have tl := text_len 40 st
 unfold symM
 split
 ·intro t ht
  simp only at ht
  rw [kt.1] at ht
  rcases List.mem_append.1 ht with h | h
  ·exact hw t h
  ·rw [List.mem_singleton.1 h]; omega
 split
 ·split
  ·rw [kn.1]; exact hw
  ·rw [(fail_ss _ _).1, kn.1]; exact hw
 ·rw [(fail_ss _ _).1]; exact hw
theorem RdOk.sym {st : PS} {p : RdP} (ok : RdOk st p) (hs : st.s.length ≤ 30000) (x : UInt8) {i : Option Addr × Nat} (hi : i.1 = none → (symM x st).2.ss = []) : RdOk (symM x st).2 { p with sa := i.1, sc := i.2 } :=
 ⟨by rw [(sym_keep x st).1]; exact ok.g, ok.cell, ok.ga, by rw [(sym_keep x st).2]; exact ok.ca, hi, sym_sw x st hs ok.sw, ok.gx⟩
end Go.Proofs.YtgogonnnojcioaaGreatDoor
namespace Go.Proofs.YtgogonnnojcioaaGreatDoor
open Go.AX Go.RowKit Go.Core Go.Marshal
set_option maxRecDepth 20000
def ddC (S : List UInt8) (st : PS) (p : RdP) : List Value := [.string (bs S), .int .i64 ((S.length - st.s.length : Nat) : Int), .slice p.ga p.m.length p.gc, .slice p.ca st.cells.length p.cc, .slice p.sa st.ss.length p.sc, .int .i64 st.e]
def dE (rb : Nat) (S : List UInt8) (st : PS) (p : RdP) (nm : List CellP) : List Ent :=
 [.app 109 6 (ddC S st p) (some ⟨rb, 0, none⟩) 1 1, .app 87 5 (grC p.m) p.ga p.m.length p.gc, .fact (fun w => ∀ q ∈ nm, CellF q w), .app 3 1 (iC st.cells) p.ca st.cells.length p.cc, .app 9 1 (strC st.ss) p.sa st.ss.length p.sc]
theorem dE_ok (rb : Nat) (S : List UInt8) (st : PS) (p : RdP) (nm : List CellP) : okH (dE rb S st p nm).length (dE rb S st p nm) := okHB_eq rfl
theorem Left.same {S : List UInt8} {a b : PS} (h : Left S a) (e : b.s = a.s) : Left S b := by unfold Left; rw [e]; exact h
theorem rdQ_left : ∀ (s : List UInt8) (i : Nat), ∃ u, s = u ++ rdQ i s
 | [], i => ⟨[], rfl⟩
 | x :: s, i => by
  unfold rdQ
  split
  ·exact ⟨[x], rfl⟩
  split
  ·exact ⟨[x], rfl⟩
  ·obtain ⟨u, hu⟩ := rdQ_left s (i + 1)
   exact ⟨x :: u, by rw [List.cons_append, ← hu]⟩
theorem Left.step {S u : List UInt8} {a b : PS} (h : Left S a) (e : a.s = u ++ b.s) : Left S b := by
 obtain ⟨v, hv⟩ := h
 exact ⟨v ++ u, by rw [hv, e, List.append_assoc]⟩
theorem Left.num {S : List UInt8} {st : PS} (h : Left S st) (most : Nat) : Left S (numM most st).2 := by
 obtain ⟨u, hu⟩ := rdQ_left st.s 0
 unfold numM
 split
 ·exact h
 split
 ·exact h.step (u := u) hu
 ·exact h.step (u := u) hu
theorem Left.next {S : List UInt8} {st : PS} (h : Left S st) : Left S (nextM st).2 := by
 unfold nextM
 split
 ·exact h
 split
 ·rename_i hs
  exact h.same rfl
 ·rename_i x s hs
  exact h.step (u := [x]) hs
theorem Left.text {S : List UInt8} {st : PS} (h : Left S st) (most : Nat) : Left S (textM most st).2 := by
 have hn := h.num maxN
 unfold textM
 split
 ·exact hn
 split
 ·exact hn.same rfl
 split
 ·exact hn.same rfl
 ·exact hn.step (u := (numM maxN st).2.s.take (numM maxN st).1) (List.take_append_drop _ _).symm
theorem Left.fail {S : List UInt8} {st : PS} (h : Left S st) (e : Int) : Left S (failM st e) := h.same (fail_s st e)
theorem symD_left {S : List UInt8} {st : PS} (h : Left S st) (x : UInt8) : Left S (symD x st).2 := by
 have ht := h.text 40
 have hn := h.num maxN
 unfold symD
 split
 ·split
  ·exact hn
  ·exact hn.fail 4
 split
 ·simp only
  split
  ·exact ht
  split
  ·exact ht.fail 4
  ·exact ht.same rfl
 ·exact h.fail 4
theorem left_len {S : List UInt8} {st : PS} (h : Left S st) : st.s.length ≤ S.length := by
 obtain ⟨u, hu⟩ := h
 rw [hu, List.length_append]; omega
theorem text_d (rb : Nat) (S : List UInt8) (hS : S.length ≤ 1000000) (gv cv sv : Value) (st : PS) (hl : Left S st) (most : Nat) : SpecH Tryz.prog 100 [.c (.v (.pointer (some ⟨rb, 0, none⟩))), .c (.v (.int .i64 (most : Int)))] (ddE rb S gv cv sv st) (RetG (ι := Unit) (fun _ => True) (fun _ => .string (bs (textM most st).1)) fun _ => ddE rb S gv cv sv (textM most st).2) := by
 refine ownC hm Tryz.func100 (by kernel_rfl) rfl rfl (fun _ _ => ddE_ok _ _ _ _ _ _) (fun _ _ => Nat.le_refl _) ?_
 have hnum := number_rd rb S hS gv cv sv st hl maxN
 have hl1 := hl.num maxN
 have hm1 := num_most maxN st
 unfold textM
 generalize numM maxN st = q at hnum hl1 hm1 ⊢
 obtain ⟨n, st1⟩ := q
 simp only at hnum hl1 hm1 ⊢
 have hm1 : n ≤ 1000000000000000 := hm1
 have hsz := bs_size S
 have hll := left_len hl1
 refine wX ?_
 refine callG (hnum) [0] rfl ⟨rfl, trivial⟩ rfl fun _ _ => ?_
 refine wX ?_
 refine LdN.one (a := some ⟨rb, 0, none⟩) (q := 5) (.int .i64 st1.e) rfl (fun w hw => hw.1) rfl ?_
 refine wX ?_
 refine brd_ne (fun h1 => ?_) (fun h1 => ?_)
 ·rw [if_pos h1]
  refine wX ?_
  exact ⟨(), trivial, rfl, wkH_refl _⟩
 rw [if_neg (fun h => h h1)]
 have e4 : ∀ e : Int, ({ st1 with e := e } : PS) = failM st1 e := fun e => by unfold failM; rw [if_pos h1]
 rw [e4 4, e4 14]
 refine wX ?_
 refine brd_dec (fun h2 => ?_) (fun h2 => ?_)
 ·rw [if_pos (by omega)]
  refine wX ?_
  refine callG (fail_r rb S gv cv sv st1 4) [0] rfl ⟨rfl, trivial⟩ rfl fun _ _ => ?_
  refine wX ?_
  exact ⟨(), trivial, rfl, wkH_refl _⟩
 rw [if_neg (by omega)]
 refine wX ?_
 refine LdN.one (a := some ⟨rb, 0, none⟩) (q := 0) (.string (bs S)) rfl (fun w hw => hw.1) rfl ?_
 refine wX ?_
 refine LdN.one (a := some ⟨rb, 0, none⟩) (q := 1) (.int .i64 ((S.length - st1.s.length : Nat) : Int)) rfl (fun w hw => hw.1) rfl ?_
 refine wX ?_
 have hv : IntKind.i64.wrap (((bs S).size : Int) - ((S.length - st1.s.length : Nat) : Int)) = (st1.s.length : Int) := by rw [hsz, wrap_i64 (by omega)]; omega
 rw [hv]
 refine brd_dec (fun h3 => ?_) (fun h3 => ?_)
 ·rw [if_pos (by omega)]
  refine wX ?_
  refine callG (fail_r rb S gv cv sv st1 14) [0] rfl ⟨rfl, trivial⟩ rfl fun _ _ => ?_
  refine wX ?_
  exact ⟨(), trivial, rfl, wkH_refl _⟩
 rw [if_neg (by omega)]
 have hn : n ≤ st1.s.length := by omega
 have hdl : (st1.s.drop n).length = st1.s.length - n := List.length_drop
 refine wX ?_
 refine LdN.one (a := some ⟨rb, 0, none⟩) (q := 1) (.int .i64 ((S.length - st1.s.length : Nat) : Int)) rfl (fun w hw => hw.1) rfl ?_
 refine wX ?_
 refine EffW.appTo (i := 0) (q := 1) (ys := [_]) [.string (bs S), .int .i64 ((S.length - (st1.s.drop n).length : Nat) : Int), gv, cv, sv, .int .i64 st1.e] 6 rfl rfl rfl rfl rfl rfl rfl (Nat.le_of_ble_eq_true rfl) ?_ rfl ?_
 ·rw [wrap_i64 (by omega), show ((S.length - st1.s.length : Nat) : Int) + (n : Int) = ((S.length - (st1.s.drop n).length : Nat) : Int) by omega]
  rfl
 refine wX ?_
 refine LdN.one (a := some ⟨rb, 0, none⟩) (q := 0) (.string (bs S)) rfl (fun w hw => hw.1) rfl ?_
 refine wX ?_
 refine LdN.one (a := some ⟨rb, 0, none⟩) (q := 1) (.int .i64 ((S.length - (st1.s.drop n).length : Nat) : Int)) rfl (fun w hw => hw.1) rfl ?_
 refine wX ?_
 refine LdN.one (a := some ⟨rb, 0, none⟩) (q := 1) (.int .i64 ((S.length - (st1.s.drop n).length : Nat) : Int)) rfl (fun w hw => hw.1) rfl ?_
 refine wX ?_
 refine ReadW.sl_lh (S.length - st1.s.length) (S.length - st1.s.length + n) rfl (by kernel_rfl) rfl rfl rfl ⟨by rw [wrap_i64 (by omega)]; omega, by omega, by omega, by omega⟩ ?_
 have e1 : (S.take (S.length - st1.s.length + n)).drop (S.length - st1.s.length) = st1.s.take n := by
  obtain ⟨u, hu⟩ := hl1
  have hul : S.length - st1.s.length = u.length := by rw [hu, List.length_append]; omega
  rw [hul, hu, List.take_length_add_append, List.drop_left]
 rw [e1]
 refine wX ?_
 exact ⟨(), trivial, rfl, wkH_refl _⟩
theorem Has_d (a : Option Addr) (l : List (List UInt8)) (cap : Nat) (s : List UInt8) (ha : a = none → l = []) (hl : l.length ≤ 1000000) :
  ∀ H, (∀ w, Facts H w → SlAt a (l.length * 1) (strC l) w) → SpecH Tryz.prog 123 (pvs [.slice a l.length cap, .string (bs s)]) H (Ret (.bool (decide (s ∈ l))) H) := by
 refine factC hm Tryz.func123 (by kernel_rfl) rfl rfl ?_
 refine wX ?_
 refine loopS Nat (fun i => i ≤ l.length ∧ s ∉ l.take i) (fun i => mkS Tryz.f123.ntmps 0 [(0, .c (.v (.slice a l.length cap))), (1, .c (.v (.string (bs s)))), (5, .c (.v (.int .i64 (i : Int))))]) (fun i => l.length - i) rfl (fun _ => rfl) 0 ⟨Nat.zero_le _, by simp⟩ ?_ ?_
 ·exact wKK
 intro i ⟨hi, hno⟩
 refine wX ?_
 refine brd_dec (fun h1 => ?_) (fun h1 => ?_)
 ·obtain ⟨t, ht⟩ : ∃ t, l[i]? = some t := ⟨_, List.getElem?_eq_getElem (by omega)⟩
  have hsa : a.isSome = true := by
   cases h : a with
   | none => rw [ha h] at ht; cases ht
   | some b => rfl
  refine wX ?_
  refine Nd.mk ⟨hsa, by omega, by omega⟩ ?_
  refine wX ?_
  refine LdN.one (.string (bs t)) rfl (fun w hw => hw.1) (by show (strC l)[Int.toNat _ * 1]? = _; rw [Int.toNat_natCast, Nat.mul_one]; exact strC_get ht) ?_
  refine wX ?_
  refine brd_intro (fun h2 => ?_) (fun h2 => ?_)
  ·have h3 : t = s := eq_of_beq (show (t == s) = true from h2)
   refine wX ?_
   rw [decide_eq_true (show s ∈ l by rw [← h3]; exact List.mem_of_getElem? ht)]
  ·have h3 : (t == s) = false := h2
   refine wX ?_
   refine ⟨i + 1, ⟨by omega, ?_⟩, by omega, ?_, wHH⟩
   ·rw [List.take_add_one, ht]
    intro h
    rcases List.mem_append.1 h with h | h
    ·exact hno h
    ·have h4 : s = t := by simpa using h
     rw [h4] at h3
     simp at h3
   ·exact wKK
 ·have hie : i = l.length := by omega
  subst hie
  rw [List.take_length] at hno
  refine wX ?_
  rw [decide_eq_false hno]
theorem lift_d {f : FuncId} {args : List AV} {v : Value} (rb : Nat) (S : List UInt8) (st st' : PS) (p : RdP) (nm : List CellP) (ha : args = rnS [0] 5 args) (keep : st'.ss = st.ss ∧ st'.g = st.g ∧ st'.cells = st.cells)
  (h : SpecH Tryz.prog f args (ddE rb S (.slice p.ga p.m.length p.gc) (.slice p.ca st.cells.length p.cc) (.slice p.sa st.ss.length p.sc) st) (RetG (ι := Unit) (fun _ => True) (fun _ => v) fun _ => ddE rb S (.slice p.ga p.m.length p.gc) (.slice p.ca st.cells.length p.cc) (.slice p.sa st.ss.length p.sc) st')) :
  SpecH Tryz.prog f args (dE rb S st p nm) (RetG (ι := Unit) (fun _ => True) (fun _ => v) fun _ => dE rb S st' p nm) := by
 refine callG h [0] rfl ⟨rfl, trivial⟩ ha fun _ _ => ⟨(), trivial, rfl, ?_⟩
 obtain ⟨s', g', c', ss', e'⟩ := st'
 obtain ⟨rfl, rfl, rfl⟩ := keep
 rfl
theorem fail_d (rb : Nat) (S : List UInt8) (st : PS) (p : RdP) (nm : List CellP) (e : Int) : SpecH Tryz.prog 85 [.c (.v (.pointer (some ⟨rb, 0, none⟩))), .c (.v (.int .i64 e))] (dE rb S st p nm) (RetG (ι := Unit) (fun _ => True) (fun _ => .tuple #[]) fun _ => dE rb S (failM st e) p nm) :=
 lift_d rb S st _ p nm rfl (fail_ss st e) (fail_r rb S _ _ _ st e)
theorem next_d (rb : Nat) (S : List UInt8) (hS : S.length ≤ 1000000) (st : PS) (p : RdP) (nm : List CellP) (hl : Left S st) : SpecH Tryz.prog 84 [.c (.v (.pointer (some ⟨rb, 0, none⟩)))] (dE rb S st p nm) (RetG (ι := Unit) (fun _ => True) (fun _ => .int .u8 ((nextM st).1.toNat : Int)) fun _ => dE rb S (nextM st).2 p nm) :=
 lift_d rb S st _ p nm rfl (next_keep st) (next_r rb S hS _ _ _ st hl)
theorem number_d (rb : Nat) (S : List UInt8) (hS : S.length ≤ 1000000) (st : PS) (p : RdP) (nm : List CellP) (hl : Left S st) (most : Nat) : SpecH Tryz.prog 98 [.c (.v (.pointer (some ⟨rb, 0, none⟩))), .c (.v (.int .i64 (most : Int)))] (dE rb S st p nm) (RetG (ι := Unit) (fun _ => True) (fun _ => .int .i64 ((numM most st).1 : Int)) fun _ => dE rb S (numM most st).2 p nm) :=
 lift_d rb S st _ p nm rfl (num_keep most st) (number_rd rb S hS _ _ _ st hl most)
theorem text_e (rb : Nat) (S : List UInt8) (hS : S.length ≤ 1000000) (st : PS) (p : RdP) (nm : List CellP) (hl : Left S st) (most : Nat) : SpecH Tryz.prog 100 [.c (.v (.pointer (some ⟨rb, 0, none⟩))), .c (.v (.int .i64 (most : Int)))] (dE rb S st p nm) (RetG (ι := Unit) (fun _ => True) (fun _ => .string (bs (textM most st).1)) fun _ => dE rb S (textM most st).2 p nm) :=
 lift_d rb S st _ p nm rfl (text_keep most st) (text_d rb S hS _ _ _ st hl most)
theorem symbol_d (rb : Nat) (S : List UInt8) (hS : S.length ≤ 1000000) (x : UInt8) (st : PS) (p : RdP) (nm : List CellP) (hl : Left S st) (hca : p.sa = none → st.ss = []) (hss : st.ss.length < 100000) : SpecH Tryz.prog 99 [.c (.v (.pointer (some ⟨rb, 0, none⟩))), .c (.v (.int .u8 (x.toNat : Int)))] (dE rb S st p nm) (RetG (ι := Option Addr × Nat) (fun i => i.1 = none → (symD x st).2.ss = []) (fun _ => .string (bs (symD x st).1)) fun i => dE rb S (symD x st).2 { p with sa := i.1, sc := i.2 } nm) := by
  refine ownC hm Tryz.func99 (by kernel_rfl) rfl rfl (fun _ _ => dE_ok _ _ _ _ _) (fun _ _ => Nat.le_refl _) ?_
  have htext := text_e rb S hS st p nm hl 40
  have hnum := number_d rb S hS st p nm hl maxN
  have kt := text_keep 40 st
  have kn := num_keep maxN st
  unfold symD
  generalize textM 40 st = qt at htext kt ⊢
  generalize numM maxN st = qn at hnum kn ⊢
  obtain ⟨t, st1⟩ := qt
  obtain ⟨n, st2⟩ := qn
  simp only at htext hnum kt kn ⊢
  by_cases h59 : x = 59
  · subst h59
    rw [if_pos rfl]
    have ca2 : p.sa = none → st2.ss = [] := fun h => by rw [kn.1]; exact hca h
    refine wX ?_
    refine callG (hnum) [0, 1, 2, 3, 4] rfl ⟨rfl, rfl, rfl, rfl, rfl, trivial⟩ rfl fun _ _ => ?_
    refine wX ?_
    refine LdN.one (a := some ⟨rb, 0, none⟩) (q := 5) (.int .i64 st2.e) rfl (fun w hw => hw.1) rfl ?_
    refine wX ?_
    by_cases he : st2.e = 0
    · rw [show (st2.e == 0) = true by rw [he]; rfl]
      refine wX ?_
      refine LdN.one (a := some ⟨rb, 0, none⟩) (q := 4) (.slice p.sa st2.ss.length p.sc) rfl (fun w hw => hw.1) rfl ?_
      refine wX ?_
      refine brd_dec (fun hlt => ?_) (fun hlt => ?_)
      · rw [if_neg (fun h => by have := h.2; omega)]
        refine wX ?_
        refine callG (fail_d rb S st2 p nm 4) [0, 1, 2, 3, 4] rfl ⟨rfl, rfl, rfl, rfl, rfl, trivial⟩ rfl fun _ _ => ?_
        have he4 : (failM st2 4).e = 4 := fail_e he 4
        refine wX ?_
        refine LdN.one (a := some ⟨rb, 0, none⟩) (q := 5) (.int .i64 (failM st2 4).e) rfl (fun w hw => hw.1) rfl ?_
        rw [he4]
        refine wX ?_
        exact ⟨(p.sa, p.sc), (fun h => by rw [(fail_ss _ _).1]; exact ca2 h), rfl, wkH_refl _⟩
      · have hn : n < st2.ss.length := by omega
        rw [if_pos ⟨he, hn⟩]
        have hsa : p.sa.isSome = true := by
          cases h : p.sa with
          | none =>
            rw [ca2 h] at hn
            exact absurd hn (Nat.not_lt_zero _)
          | some b => rfl
        have hget : st2.ss[n]? = some (st2.ss.getD n []) := by rw [List.getD_eq_getElem?_getD, List.getElem?_eq_getElem hn]; rfl
        refine wX ?_
        refine LdN.one (a := some ⟨rb, 0, none⟩) (q := 5) (.int .i64 st2.e) rfl (fun w hw => hw.1) rfl ?_
        rw [he]
        refine wX ?_
        refine LdN.one (a := some ⟨rb, 0, none⟩) (q := 4) (.slice p.sa st2.ss.length p.sc) rfl (fun w hw => hw.1) rfl ?_
        refine wX ?_
        refine Nd.mk ⟨hsa, by omega, by omega⟩ ?_
        refine wX ?_
        refine LdN.one (.string (bs (st2.ss.getD n []))) rfl (fun w hw => hw.2.2.2.2.1) (by show (strC st2.ss)[Int.toNat _ * 1]? = _; rw [Int.toNat_natCast, Nat.mul_one]; exact strC_get hget) ?_
        refine wX ?_
        exact ⟨(p.sa, p.sc), ca2, rfl, wkH_refl _⟩
    · rw [show (st2.e == 0) = false by simpa using he, if_neg (fun h => he h.1)]
      have e0 : failM st2 4 = st2 := fail_dead he 4
      rw [e0]
      refine wX ?_
      refine LdN.one (a := some ⟨rb, 0, none⟩) (q := 5) (.int .i64 st2.e) rfl (fun w hw => hw.1) rfl ?_
      refine wX ?_
      refine brd_ne (fun _ => ?_) (fun h => absurd h he)
      refine wX ?_
      exact ⟨(p.sa, p.sc), ca2, rfl, wkH_refl _⟩
  rw [if_neg h59]
  have e2 : ((x.toNat : Int) == 59) = false := by
    rw [beq_eq_false_iff_ne]
    intro h5
    exact h59 (UInt8.toNat_inj.1 (by have : x.toNat = 59 := by omega
                                     rw [this]; rfl))
  by_cases h58 : x = 58
  · subst h58
    rw [if_pos rfl]
    have ca1 : p.sa = none → st1.ss = [] := fun h => by rw [kt.1]; exact hca h
    have hl1 : st1.ss.length < 100000 := by rw [kt.1]; exact hss
    refine wX ?_
    refine callG (htext) [0, 1, 2, 3, 4] rfl ⟨rfl, rfl, rfl, rfl, rfl, trivial⟩ rfl fun _ _ => ?_
    refine wX ?_
    refine LdN.one (a := some ⟨rb, 0, none⟩) (q := 5) (.int .i64 st1.e) rfl (fun w hw => hw.1) rfl ?_
    refine wX ?_
    by_cases he : st1.e = 0
    · rw [show (st1.e == 0) = true by rw [he]; rfl, if_neg (fun h => h he)]
      refine wX ?_
      refine LdN.one (a := some ⟨rb, 0, none⟩) (q := 4) (.slice p.sa st1.ss.length p.sc) rfl (fun w hw => hw.1) rfl ?_
      refine wX ?_
      refine call1 (Has_d p.sa st1.ss p.sc t ca1 (by omega) _ (fun w hw => hw.2.2.2.2.1)) ?_
      refine wX ?_
      refine brd_dec (fun hm => ?_) (fun hm => ?_)
      · rw [if_pos hm]
        refine wX ?_
        refine callG (fail_d rb S st1 p nm 4) [0, 1, 2, 3, 4] rfl ⟨rfl, rfl, rfl, rfl, rfl, trivial⟩ rfl fun _ _ => ?_
        have he4 : (failM st1 4).e = 4 := fail_e he 4
        refine wX ?_
        refine LdN.one (a := some ⟨rb, 0, none⟩) (q := 5) (.int .i64 (failM st1 4).e) rfl (fun w hw => hw.1) rfl ?_
        rw [he4]
        refine wX ?_
        exact ⟨(p.sa, p.sc), (fun h => by rw [(fail_ss _ _).1]; exact ca1 h), rfl, wkH_refl _⟩
      · rw [if_neg hm]
        refine wX ?_
        refine LdN.one (a := some ⟨rb, 0, none⟩) (q := 5) (.int .i64 st1.e) rfl (fun w hw => hw.1) rfl ?_
        refine wX ?_
        rw [show (st1.e == 0) = true by rw [he]; rfl]
        refine wX ?_
        refine LdN.one (a := some ⟨rb, 0, none⟩) (q := 4) (.slice p.sa (st1).ss.length p.sc) rfl (fun w hw => hw.1) rfl ?_
        refine wX ?_
        refine Nd.mk ⟨Nat.le_refl 1, rfl, rfl⟩ ?_
        (conv => whnf)
        refine AppN.grow 4 (strC (st1).ss) [.string (bs t)] rfl rfl ⟨Nat.le_refl 1, ⟨by show ((st1).ss.length + 1) * 16 ≤ _; omega, by omega⟩, by decide⟩ fun b' cap' h1 h2 => ?_
        refine wX ?_
        refine EffW.appTo (i := 0) (q := 4) (ys := [_]) (ddC S { (st1) with ss := (st1).ss ++ [t] } { p with sa := some ⟨b', 0, none⟩, sc := cap' }) 6 rfl rfl rfl rfl rfl rfl rfl (Nat.le_of_ble_eq_true rfl) (by simp [ddC]) rfl ?_
        refine wX ?_
        refine ⟨(some ⟨b', 0, none⟩, cap'), (fun h => by cases h), rfl, wkE_refl _, wkE_refl _, wkE_refl _, wkE_refl _, ?_, trivial⟩
        rw [show strC (st1).ss ++ [.string (bs t)] = strC ((st1).ss ++ [t]) by simp [strC], show (st1).ss.length + 1 = ((st1).ss ++ [t]).length by simp]
        exact wkE_refl _
    · rw [show (st1.e == 0) = false by simpa using he, if_pos he]
      refine wX ?_
      refine LdN.one (a := some ⟨rb, 0, none⟩) (q := 5) (.int .i64 st1.e) rfl (fun w hw => hw.1) rfl ?_
      refine wX ?_
      rw [show (st1.e == 0) = false by simpa using he]
      refine wX ?_
      exact ⟨(p.sa, p.sc), ca1, rfl, wkH_refl _⟩
  · rw [if_neg h58]
    have e1 : ((x.toNat : Int) == 58) = false := by
      rw [beq_eq_false_iff_ne]
      intro h5
      exact h58 (UInt8.toNat_inj.1 (by have : x.toNat = 58 := by omega
                                       rw [this]; rfl))
    refine wX ?_
    rw [e2]
    refine wX ?_
    rw [show ((x.toNat : Int) != 58) = true by rw [bne, e1]; rfl]
    refine wX ?_
    refine callG (fail_d rb S st p nm 4) [0, 1, 2, 3, 4] rfl ⟨rfl, rfl, rfl, rfl, rfl, trivial⟩ rfl fun _ _ => ?_
    refine wX ?_
    exact ⟨(p.sa, p.sc), (fun h => by rw [(fail_ss _ _).1]; exact hca h), rfl, wkH_refl _⟩
end Go.Proofs.YtgogonnnojcioaaGreatDoor
namespace Go.Marshal
open Go.Core
def putI (k : Nat) (i : Int) (st : St) : St := { st with g := st.g.set k { st.g.getD k nilC with items := (st.g.getD k nilC).items ++ [i] } }
def putA (k : Nat) (t : B) (i : Int) (st : St) : St := { st with g := st.g.set k { st.g.getD k nilC with names := (st.g.getD k nilC).names ++ [t], items := (st.g.getD k nilC).items ++ [i] } }
def itemsD (f : St → Except Int (Int × St)) (k : Nat) : Nat → St → Except Int (Unit × St)
 | 0, st => .ok ((), st)
 | n + 1, st => bnd (f st) fun i st => itemsD f k n (putI k i st)
def attrsD (f : St → Except Int (Int × St)) (k : Nat) : Nat → St → Except Int (Unit × St)
 | 0, st => .ok ((), st)
 | n + 1, st => bnd (nextS st) fun x st => bnd (symS x st) fun t st =>
  if Go.Scan.iiB t = true ∧ t ∉ (st.g.getD k nilC).names then bnd (f st) fun i st => attrsD f k n (putA k t i st) else .error 4
def addS (c : Cell) (st : St) : St := { st with g := st.g ++ [c] }
def openK (k : Int) (st : St) : St := ⟨st.s, st.g ++ [⟨k, 0, [], [], []⟩], st.cells ++ [(st.g.length : Int)], st.ss⟩
def setT (k : Nat) (t : B) (st : St) : St := { st with g := st.g.set k { st.g.getD k nilC with text := t } }
def objD (f : St → Except Int (Int × St)) (k : Nat) (st : St) : Except Int (Unit × St) :=
 bnd (nextS st) fun y st => bnd (symS y st) fun t st => if Go.Scan.icB t = true then bnd (numS maxN (setT k t st)) fun n st => attrsD f k n st else .error 4
def innerD (f : St → Except Int (Int × St)) (x : UInt8) (st : St) : Except Int (Unit × St) :=
 if x = 48 then .ok ((), addS ⟨0, 0, [], [], []⟩ st)
 else if x = 84 then .ok ((), addS ⟨1, 0, [], [], []⟩ st)
 else if x = 70 then .ok ((), addS ⟨2, 0, [], [], []⟩ st)
 else if x = 105 then bnd (numS (2 * maxN) st) fun n st => .ok ((), addS ⟨3, unsgn n, [], [], []⟩ st)
 else if x = 34 then bnd (textS maxN (openK 4 st)) fun t st' => .ok ((), setT st.g.length t st')
 else if x = 58 ∨ x = 59 then bnd (symS x st) fun t st => .ok ((), addS ⟨5, 0, t, [], []⟩ st)
 else if x = 91 then bnd (numS maxN (openK 6 st)) fun n st' => itemsD f st.g.length n st'
 else if x = 123 then bnd (numS maxN (openK 7 st)) fun n st' => itemsD f st.g.length (2 * n) st'
 else objD f st.g.length (openK 8 st)
def formD : Nat → St → Except Int (Int × St)
 | 0, _ => .error 99
 | n + 1, st => bnd (nextS st) fun x st =>
  if x = 64 then bnd (numS maxN st) fun k st => match st.cells[k]? with
   | some c => .ok (c, st)
   | none => .error 4
  else if 500 ≤ st.g.length ∨ x ∉ begins then .error 4
  else bnd (innerD (formD n) x st) fun _ st' => .ok ((st.g.length : Int), st')
theorem getD_set {l : List Cell} {k : Nat} (c : Cell) (h : k < l.length) : (l.set k c).getD k nilC = c := by
 rw [List.getD_eq_getElem?_getD, List.getElem?_set_self h]; rfl
theorem set_app {l t : List Cell} {k : Nat} (c : Cell) (h : k < l.length) : (l ++ t).set k c = l.set k c ++ t := by
 rw [List.set_append_left _ _ h]
theorem FrS.at {α : Type} {f : St → Except Int (α × St)} (hf : FrS f) (k : Nat) (c : Cell) (st : St) (h : k < st.g.length) : f (gS st (st.g.set k c)) = match f st with
  | .ok (a, st') => .ok (a, gS st' (st'.g.set k c))
  | .error e => .error e := by
 cases hr : f st with
 | error e => exact hf.err st e hr _ (by simp)
 | ok p =>
  obtain ⟨a, st'⟩ := p
  obtain ⟨tl, e1, k1⟩ := hf.ok st a st' hr
  rw [k1 _ (by simp)]
  simp only
  rw [e1, set_app c h]
theorem FrS.grows {α : Type} {f : St → Except Int (α × St)} (hf : FrS f) {st st' : St} {a : α} (h : f st = .ok (a, st')) : st.g.length ≤ st'.g.length := by
 obtain ⟨tl, e1, _⟩ := hf.ok st a st' h
 rw [e1, List.length_append]; omega
theorem itemsD_eq {f : St → Except Int (Int × St)} (hf : FrS f) (k : Nat) (c : Cell) : ∀ (n : Nat) (l : List Int) (st : St), k < st.g.length → itemsD f k n (gS st (st.g.set k { c with items := l })) = bnd (itemsA f n l st) fun l' st' => .ok ((), gS st' (st'.g.set k { c with items := l' }))
 | 0, l, st, h => rfl
 | n + 1, l, st, h => by
  unfold itemsD itemsA
  rw [hf.at k _ st h]
  cases hr : f st with
  | error e => rfl
  | ok p =>
   obtain ⟨i, st'⟩ := p
   have h2 := Nat.lt_of_lt_of_le h (hf.grows hr)
   show itemsD f k n (putI k i (gS st' (st'.g.set k _))) = bnd (itemsA f n (l ++ [i]) st') _
   rw [← itemsD_eq hf k c n (l ++ [i]) st' h2]
   congr 1
   unfold putI gS
   simp only [getD_set _ h2, List.set_set]
theorem attrsD_eq {f : St → Except Int (Int × St)} (hf : FrS f) (k : Nat) (c : Cell) : ∀ (n : Nat) (ns : List B) (l : List Int) (st : St), k < st.g.length → attrsD f k n (gS st (st.g.set k { c with names := ns, items := l })) = bnd (attrsA f n ns l st) fun p st' => .ok ((), gS st' (st'.g.set k { c with names := p.1, items := p.2 }))
 | 0, ns, l, st, h => rfl
 | n + 1, ns, l, st, h => by
  unfold attrsD attrsA
  rw [FrS.next.at k _ st h]
  cases hr : nextS st with
  | error e => rfl
  | ok p =>
   obtain ⟨x, s1⟩ := p
   have h1 := Nat.lt_of_lt_of_le h (FrS.next.grows hr)
   show bnd (symS x (gS s1 (s1.g.set k { c with names := ns, items := l }))) _ = bnd (bnd (symS x s1) _) _
   rw [(FrS.sym x).at k _ s1 h1]
   cases hr2 : symS x s1 with
   | error e => rfl
   | ok p =>
    obtain ⟨t, s2⟩ := p
    have h2 := Nat.lt_of_lt_of_le h1 ((FrS.sym x).grows hr2)
    have e0 : ((gS s2 (s2.g.set k { c with names := ns, items := l })).g.getD k nilC).names = ns := by
     show ((s2.g.set k { c with names := ns, items := l }).getD k nilC).names = ns
     rw [getD_set _ h2]
    show (if Go.Scan.iiB t = true ∧ t ∉ ((gS s2 (s2.g.set k { c with names := ns, items := l })).g.getD k nilC).names then _ else _) = bnd (if Go.Scan.iiB t = true ∧ t ∉ ns then _ else _) _
    rw [e0]
    by_cases hc : Go.Scan.iiB t = true ∧ t ∉ ns
    ·rw [if_pos hc, if_pos hc, hf.at k _ s2 h2]
     cases hr3 : f s2 with
     | error e => rfl
     | ok p =>
      obtain ⟨i, s3⟩ := p
      have h3 := Nat.lt_of_lt_of_le h2 (hf.grows hr3)
      show attrsD f k n (putA k t i (gS s3 (s3.g.set k _))) = bnd (attrsA f n (ns ++ [t]) (l ++ [i]) s3) _
      rw [← attrsD_eq hf k c n (ns ++ [t]) (l ++ [i]) s3 h3]
      congr 1
      unfold putA gS
      simp only [getD_set _ h3, List.set_set]
    ·rw [if_neg hc, if_neg hc]
     rfl
theorem set_last (g : List Cell) (c d : Cell) : (g ++ [c]).set g.length d = g ++ [d] := by
 rw [List.set_append_right _ _ (Nat.le_refl _), Nat.sub_self]; rfl
theorem openS_named {x : UInt8} (h : x ∈ named) (st : St) : openS x st = ⟨st.s, st.g ++ [nilC], st.cells ++ [(st.g.length : Int)], st.ss⟩ := by unfold openS; rw [if_pos h]
theorem openK_eq {x : UInt8} (h : x ∈ named) (k : Int) (st : St) : openK k st = gS (openS x st) ((openS x st).g.set st.g.length ⟨k, 0, [], [], []⟩) := by
 rw [openS_named h]
 unfold openK gS
 simp only [set_last]
theorem open_len (x : UInt8) (st : St) : st.g.length < (openS x st).g.length := by
 show _ < (st.g ++ [nilC]).length
 simp
structure Free {α : Type} (f : St → Except Int (α × St)) : Prop where
 eq : ∀ st g2, f (gS st g2) = match f st with
  | .ok (a, st') => .ok (a, gS st' g2)
  | .error e => .error e
 keep : ∀ st a st', f st = .ok (a, st') → st'.g = st.g
theorem Free.num (most : Nat) : Free (numS most) := by
 refine ⟨fun st g2 => ?_, fun st a st' h => ?_⟩
 ·unfold numS gS
  cases rd most st.s <;> rfl
 ·unfold numS at h
  split at h
  ·cases h
  ·cases h; rfl
theorem Free.text (most : Nat) : Free (textS most) := by
 refine ⟨fun st g2 => ?_, fun st a st' h => ?_⟩
 ·unfold textS gS
  cases rdT most st.s <;> rfl
 ·unfold textS at h
  split at h
  ·cases h
  ·cases h; rfl
theorem Free.sym (x : UInt8) : Free (symS x) := by
 refine ⟨fun st g2 => ?_, fun st a st' h => ?_⟩
 ·unfold symS gS
  cases rdSym x st.ss st.s <;> rfl
 ·unfold symS at h
  split at h
  ·cases h
  ·cases h; rfl
theorem Free.next : Free nextS := by
 refine ⟨fun st g2 => ?_, fun st a st' h => ?_⟩
 ·unfold nextS gS
  cases st.s <;> rfl
 ·unfold nextS at h
  split at h
  ·cases h
  ·cases h; rfl
theorem open_leaf {x : UInt8} (hx : x ∉ named) (st : St) : openS x st = gS st (st.g ++ [nilC]) := by unfold openS gS; rw [if_neg hx]
theorem leaf_eq {α : Type} {f : St → Except Int (α × St)} (hf : Free f) {x : UInt8} (hx : x ∉ named) (c : α → Cell) (st : St) :
  (bnd (bnd (f st) fun a st => .ok ((), addS (c a) st)) fun _ st' => .ok ((st.g.length : Int), st')) = bnd (bnd (f (openS x st)) fun a st => .ok (c a, st)) fun c st' => .ok ((st.g.length : Int), setS st.g.length c st') := by
 rw [open_leaf hx, hf.eq]
 cases hr : f st with
 | error e => rfl
 | ok p =>
  obtain ⟨a, s1⟩ := p
  have hg := hf.keep st a s1 hr
  show Except.ok ((st.g.length : Int), addS (c a) s1) = Except.ok ((st.g.length : Int), setS st.g.length (c a) (gS s1 (st.g ++ [nilC])))
  unfold addS setS gS
  simp only [hg, set_last]
theorem const_eq {x : UInt8} (hx : x ∉ named) (c : Cell) (st : St) : (.ok ((st.g.length : Int), addS c st) : Except Int (Int × St)) = .ok ((st.g.length : Int), setS st.g.length c (openS x st)) := by
 rw [open_leaf hx]
 unfold addS setS gS
 simp only [set_last]
theorem text_eq (st : St) : (bnd (bnd (textS maxN (openK 4 st)) fun t st' => .ok ((), setT st.g.length t st')) fun _ st' => .ok ((st.g.length : Int), st')) = bnd (bnd (textS maxN (openS 34 st)) fun t st' => .ok (⟨4, 0, t, [], []⟩, st')) fun c st' => .ok ((st.g.length : Int), setS st.g.length c st') := by
 have hl := open_len 34 st
 rw [openK_eq (x := 34) (by decide), (Free.text maxN).eq]
 cases hr : textS maxN (openS 34 st) with
 | error e => rfl
 | ok p =>
  obtain ⟨t, s1⟩ := p
  have hg := (Free.text maxN).keep _ _ _ hr
  show Except.ok ((st.g.length : Int), setT st.g.length t (gS s1 ((openS 34 st).g.set st.g.length ⟨4, 0, [], [], []⟩))) = Except.ok ((st.g.length : Int), setS st.g.length ⟨4, 0, t, [], []⟩ s1)
  unfold setT setS gS
  simp only [getD_set _ hl, List.set_set, hg]
theorem list_eq {f : St → Except Int (Int × St)} (hf : FrS f) {x : UInt8} (hx : x ∈ named) (k : Int) (m : Nat → Nat) (st : St) : (bnd (bnd (numS maxN (openK k st)) fun n st' => itemsD f st.g.length (m n) st') fun _ st' => .ok ((st.g.length : Int), st')) = bnd (bnd (numS maxN (openS x st)) fun n st' => bnd (itemsA f (m n) [] st') fun l st' => .ok (⟨k, 0, [], [], l⟩, st')) fun c st' => .ok ((st.g.length : Int), setS st.g.length c st') := by
 have hl := open_len x st
 rw [openK_eq hx, (Free.num maxN).eq]
 cases hr : numS maxN (openS x st) with
 | error e => rfl
 | ok p =>
  obtain ⟨n, s1⟩ := p
  have hg := (Free.num maxN).keep _ _ _ hr
  have h9 := itemsD_eq hf st.g.length ⟨k, 0, [], [], []⟩ (m n) [] s1 (by rw [hg]; exact hl)
  rw [hg] at h9
  show bnd (itemsD f st.g.length (m n) (gS s1 ((openS x st).g.set st.g.length ⟨k, 0, [], [], []⟩))) _ = bnd (bnd (itemsA f (m n) [] s1) _) _
  rw [h9]
  cases itemsA f (m n) [] s1 with
  | error e => rfl
  | ok q => rfl
theorem obj_eq {f : St → Except Int (Int × St)} (hf : FrS f) (st : St) : (bnd (objD f st.g.length (openK 8 st)) fun _ st' => .ok ((st.g.length : Int), st')) = bnd (bnd (nextS (openS 111 st)) fun y st => bnd (symS y st) fun t st => if Go.Scan.icB t = true then bnd (numS maxN st) fun n st => bnd (attrsA f n [] [] st) fun p st => .ok ((⟨8, 0, t, p.1, p.2⟩ : Cell), st) else .error 4) fun c st' => .ok ((st.g.length : Int), setS st.g.length c st') := by
 have hl := open_len 111 st
 unfold objD
 rw [openK_eq (x := 111) (by decide), Free.next.eq]
 cases hr : nextS (openS 111 st) with
 | error e => rfl
 | ok p =>
  obtain ⟨y, s1⟩ := p
  have hg1 := Free.next.keep _ _ _ hr
  show bnd (bnd (symS y (gS s1 _)) _) _ = bnd (bnd (symS y s1) _) _
  rw [(Free.sym y).eq]
  cases hr2 : symS y s1 with
  | error e => rfl
  | ok p =>
   obtain ⟨t, s2⟩ := p
   have hg2 := (Free.sym y).keep _ _ _ hr2
   show bnd (if Go.Scan.icB t = true then _ else _) _ = bnd (if Go.Scan.icB t = true then _ else _) _
   by_cases hc : Go.Scan.icB t = true
   ·rw [if_pos hc, if_pos hc]
    have hs : setT st.g.length t (gS s2 ((openS 111 st).g.set st.g.length ⟨8, 0, [], [], []⟩)) = gS s2 ((openS 111 st).g.set st.g.length ⟨8, 0, t, [], []⟩) := by
     unfold setT gS
     simp only [getD_set _ hl, List.set_set]
    rw [hs, (Free.num maxN).eq]
    cases hr3 : numS maxN s2 with
    | error e => rfl
    | ok p =>
     obtain ⟨n, s3⟩ := p
     have hg3 := (Free.num maxN).keep _ _ _ hr3
     have hg : s3.g = (openS 111 st).g := by rw [hg3, hg2, hg1]
     have h9 := attrsD_eq hf st.g.length ⟨8, 0, t, [], []⟩ n [] [] s3 (by rw [hg]; exact hl)
     rw [hg] at h9
     show bnd (attrsD f st.g.length n (gS s3 ((openS 111 st).g.set st.g.length ⟨8, 0, t, [], []⟩))) _ = bnd (bnd (attrsA f n [] [] s3) _) _
     rw [h9]
     cases attrsA f n [] [] s3 with
     | error e => rfl
     | ok q => rfl
   ·rw [if_neg hc, if_neg hc]
    rfl
theorem formD_eq : ∀ n : Nat, formD n = formF n
 | 0 => rfl
 | n + 1 => by
  funext st
  have ih := formD_eq n
  have hf := FrS.form n
  unfold formD formF
  refine Marshal.bnd_congr fun x st _ => ?_
  by_cases h64 : x = 64
  ·rw [if_pos h64, if_pos h64]
   exact Marshal.bnd_congr fun k st _ => by cases st.cells[k]? <;> rfl
  rw [if_neg h64, if_neg h64]
  by_cases hc : 500 ≤ st.g.length ∨ x ∉ begins
  ·rw [if_pos hc, if_pos hc]
  rw [if_neg hc, if_neg hc, ih]
  have hb : x ∈ begins := Classical.not_not.1 fun h => hc (.inr h)
  unfold begins at hb
  simp only [List.mem_cons, List.not_mem_nil, or_false] at hb
  rcases hb with rfl | rfl | rfl | rfl | rfl | rfl | rfl | rfl | rfl | rfl
  ·exact const_eq (x := 48) (by decide) _ st
  ·exact const_eq (x := 84) (by decide) _ st
  ·exact const_eq (x := 70) (by decide) _ st
  ·exact leaf_eq (Free.num (2 * maxN)) (x := 105) (by decide) (fun n => ⟨3, unsgn n, [], [], []⟩) st
  ·exact text_eq st
  ·exact leaf_eq (Free.sym 58) (x := 58) (by decide) (fun t => ⟨5, 0, t, [], []⟩) st
  ·exact leaf_eq (Free.sym 59) (x := 59) (by decide) (fun t => ⟨5, 0, t, [], []⟩) st
  ·exact list_eq hf (x := 91) (by decide) 6 (fun n => n) st
  ·exact list_eq hf (x := 123) (by decide) 7 (fun n => 2 * n) st
  ·exact obj_eq hf st
def Tel {α : Type} (R : Except Int (α × St)) (v : α) (st : PS) : Prop := match R with
 | .ok (a, s) => v = a ∧ st = ofS s
 | .error e => st.e = e ∧ e ≠ 0
theorem Tel.live {α : Type} {R : Except Int (α × St)} {v : α} {st : PS} (h : Tel R v st) (h0 : st.e = 0) : R = .ok (v, toS st) := by
 cases R with
 | error e => exact absurd (h.1.symm.trans h0) h.2
 | ok p =>
  obtain ⟨a, s⟩ := p
  obtain ⟨rfl, h2⟩ := h
  rw [h2]
  rfl
theorem Tel.dead {α : Type} {R : Except Int (α × St)} {v : α} {st : PS} (h : Tel R v st) (hd : st.e ≠ 0) : R = .error st.e := by
 cases R with
 | error e => rw [h.1]
 | ok p =>
  obtain ⟨a, s⟩ := p
  exact absurd (by rw [h.2]; rfl) hd
theorem Tel.ok {α : Type} {v : α} {st : PS} (h0 : st.e = 0) : Tel (.ok (v, toS st)) v st := ⟨rfl, (ofS_toS h0).symm⟩
theorem Ref.tel {α : Type} {F : St → Except Int (α × St)} {M : PS → α × PS} (h : Ref F M) {st : PS} (h0 : st.e = 0) : Tel (F (toS st)) (M st).1 (M st).2 := by
 cases hr : F (toS st) with
 | error e => exact h.err st e h0 hr
 | ok p =>
  obtain ⟨a, s⟩ := p
  rw [h.ok st a s h0 hr]
  exact ⟨rfl, rfl⟩
theorem Tel.bnd {α β : Type} {R : Except Int (α × St)} {v : α} {st : PS} (h : Tel R v st) {G : α → St → Except Int (β × St)} {w : β} {st2 : PS} (hl : st.e = 0 → Tel (G v (toS st)) w st2) (hd : st.e ≠ 0 → st2.e = st.e) : Tel (Marshal.bnd R G) w st2 := by
 by_cases h0 : st.e = 0
 ·rw [h.live h0]
  exact hl h0
 ·rw [h.dead h0]
  exact ⟨hd h0, h0⟩
theorem symD_le (x : UInt8) (st : PS) : Le (if x = 58 then 1 else 0) st (symD x st).2 := by
 have hn := num_le maxN st
 have ht := text_le 40 st
 unfold symD
 by_cases h59 : x = 59
 ·rw [if_pos h59, if_neg (by rw [h59]; decide)]
  split
  ·exact hn
  ·exact hn.trans (fail_le _ 4)
 rw [if_neg h59]
 by_cases h58 : x = 58
 ·rw [if_pos h58, if_pos h58]
  show Le 1 st (if (textM 40 st).2.e ≠ 0 then (textM 40 st).2 else if (textM 40 st).1 ∈ (textM 40 st).2.ss then failM (textM 40 st).2 4 else { (textM 40 st).2 with ss := (textM 40 st).2.ss ++ [(textM 40 st).1] })
  split
  ·exact ht.mono (by omega)
  split
  ·exact (ht.trans (fail_le _ 4)).mono (by omega)
  ·exact ⟨by have := ht.pot; simp; omega, ht.s, ht.g, ht.g5, ht.cl⟩
 ·rw [if_neg h58, if_neg h58]
  exact fail_le st 4
theorem symD_keep (x : UInt8) (st : PS) : (symD x st).2.g = st.g ∧ (symD x st).2.cells = st.cells := by
 have hn : (numM maxN st).2.g = st.g ∧ (numM maxN st).2.cells = st.cells := by
  unfold numM
  split
  ·exact ⟨rfl, rfl⟩
  split <;> exact ⟨rfl, rfl⟩
 have hf : ∀ (a : PS) (e : Int), (failM a e).g = a.g ∧ (failM a e).cells = a.cells := fun a e => by unfold failM; split <;> exact ⟨rfl, rfl⟩
 have ht : (textM 40 st).2.g = st.g ∧ (textM 40 st).2.cells = st.cells := by
  unfold textM
  split
  ·exact hn
  split
  ·exact hn
  split <;> exact hn
 unfold symD
 split
 ·split
  ·exact hn
  ·exact ⟨(hf _ 4).1.trans hn.1, (hf _ 4).2.trans hn.2⟩
 split
 ·simp only
  split
  ·exact ht
  split
  ·exact ⟨(hf _ 4).1.trans ht.1, (hf _ 4).2.trans ht.2⟩
  ·exact ht
 ·exact hf st 4
theorem nextsymD_le (st : PS) : Le 0 st (symD (nextM st).1 (nextM st).2).2 := by
 have h := symD_le (nextM st).1 (nextM st).2
 by_cases hx : (nextM st).1 = 58
 ·rw [if_pos hx] at h
  obtain ⟨h1, h2, h3, h4, _⟩ := next_lt (st := st) (.inr (by rw [hx]; decide))
  have h5 := h.pot
  have h6 := h.cl
  rw [h2] at h5
  rw [h3, h4] at h6
  exact ⟨by omega, Nat.le_trans h.s (by omega), by rw [← h3]; exact h.g, fun h0 => h.g5 (by rw [h3]; exact h0), h6⟩
 ·rw [if_neg hx] at h
  exact (next_le st).trans h
theorem symD_len (x : UInt8) (st : PS) (hs : st.s.length ≤ 30000) (hw : ∀ t ∈ st.ss, t.length ≤ 30000) : (symD x st).1.length ≤ 30000 ∧ ∀ t ∈ (symD x st).2.ss, t.length ≤ 30000 := by
 have hk : (numM maxN st).2.ss = st.ss := by
  unfold numM
  split
  ·rfl
  split <;> rfl
 have hf : ∀ (a : PS) (e : Int), (failM a e).ss = a.ss := fun a e => by unfold failM; split <;> rfl
 have htk : (textM 40 st).2.ss = st.ss := by
  unfold textM
  split
  ·exact hk
  split
  ·exact hk
  split <;> exact hk
 have htl := text_len 40 st
 unfold symD
 split
 ·split
  ·rename_i h
   refine ⟨?_, by rw [hk]; exact hw⟩
   show ((numM maxN st).2.ss.getD (numM maxN st).1 []).length ≤ _
   rw [hk] at h ⊢
   rw [List.getD_eq_getElem?_getD, List.getElem?_eq_getElem h.2]
   exact hw _ (List.getElem_mem _)
  ·exact ⟨Nat.zero_le _, by rw [hf, hk]; exact hw⟩
 split
 ·refine ⟨Nat.le_trans htl hs, ?_⟩
  simp only
  split
  ·rw [htk]; exact hw
  split
  ·rw [hf, htk]; exact hw
  ·intro t ht
   simp only [htk] at ht
   rcases List.mem_append.1 ht with h | h
   ·exact hw t h
   ·rw [List.mem_singleton.1 h]; omega
 ·exact ⟨Nat.zero_le _, by rw [hf]; exact hw⟩
end Go.Marshal
namespace Go.Proofs.YtgogonnnojcioaaGreatDoor
open Go.AX Go.RowKit Go.Core Go.Marshal
set_option maxRecDepth 20000
structure OkD (st : PS) (p : RdP) : Prop where
 g : p.m.map (·.c) = st.g
 ga : p.ga = none → p.m = []
 ca : p.ca = none → st.cells = []
 sa : p.sa = none → st.ss = []
 sw : ∀ t ∈ st.ss, t.length ≤ 30000
 gx : p.ga = none ∨ ∃ b : Nat, p.ga = some ⟨b, 0, none⟩
theorem OkD.same {st st' : PS} {p : RdP} (ok : OkD st p) (h : st'.ss = st.ss ∧ st'.g = st.g ∧ st'.cells = st.cells) : OkD st' p :=
 ⟨by rw [h.2.1]; exact ok.g, ok.ga, by rw [h.2.2]; exact ok.ca, by rw [h.1]; exact ok.sa, by rw [h.1]; exact ok.sw, ok.gx⟩
theorem OkD.sym {st : PS} {p : RdP} (ok : OkD st p) (hs : st.s.length ≤ 30000) (x : UInt8) {i : Option Addr × Nat} (hi : i.1 = none → (symD x st).2.ss = []) : OkD (symD x st).2 { p with sa := i.1, sc := i.2 } :=
 ⟨by rw [(symD_keep x st).1]; exact ok.g, ok.ga, by rw [(symD_keep x st).2]; exact ok.ca, hi, (symD_len x st hs ok.sw).2, ok.gx⟩
abbrev plP (c : Cell) : CellP := ⟨c, none, 0, none, 0⟩
def addP (st : PS) (c : Cell) : PS := { st with g := st.g ++ [c] }
theorem OkD.add {st : PS} {p : RdP} (ok : OkD st p) (c : Cell) (b gc : Nat) : OkD (addP st c) { p with m := p.m ++ [plP c], ga := some ⟨b, 0, none⟩, gc := gc } :=
 ⟨by show (p.m ++ [plP c]).map (·.c) = st.g ++ [c]; rw [List.map_append, ok.g]; rfl, (fun h => by cases h), ok.ca, ok.sa, ok.sw, .inr ⟨b, rfl⟩⟩
theorem add_d (rb : Nat) (S : List UInt8) (st : PS) (p : RdP) (nm : List CellP) (c : Cell) (hc : c.names = [] ∧ c.items = []) (hl : p.m.length ≤ 1000000) : SpecH Tryz.prog 97 [.c (.v (.pointer (some ⟨rb, 0, none⟩))), .c (.v (.agg #[.int .i64 c.kind, .int .i64 c.num, .string (bs c.text), .slice none 0 0, .slice none 0 0]))] (dE rb S st p nm)
  (RetG (ι := Nat × Nat) (fun _ => True) (fun _ => .int .i64 (p.m.length : Int)) fun i => dE rb S (addP st c) { p with m := p.m ++ [plP c], ga := some ⟨i.1, 0, none⟩, gc := i.2 } nm) := by
 refine ownC hm Tryz.func97 (by kernel_rfl) rfl rfl (fun _ _ => dE_ok _ _ _ _ _) (fun _ _ => Nat.le_refl _) ?_
 refine wX ?_
 refine DrawN.plan [0, 1] [(2, 1), (3, 1), (4, 1), (5, 1), (6, 0)] [(7, 0), (8, 0), (9, 0), (10, 0)] (by decide +kernel) ?_
 refine wX ?_
 refine LdN.one (a := some ⟨rb, 0, none⟩) (q := 2) (.slice p.ga p.m.length p.gc) rfl (fun w hw => hw.1) rfl ?_
 have hn := hc.1
 have hi := hc.2
 obtain ⟨k, num, t, ns, its⟩ := c
 simp only at hn hi
 subst hn
 subst hi
 refine wX ?_
 refine Nd.mk ⟨Nat.le_refl 1, rfl, rfl⟩ ?_
 (conv => whnf)
 refine AppN.grow 1 (grC p.m) (cellC (plP ⟨k, num, t, [], []⟩)) rfl rfl ⟨Nat.le_refl 1, ⟨by show (p.m.length + 1) * 80 ≤ _; omega, by omega⟩, by decide⟩ fun gb gc' g1 g2 => ?_
 refine wX ?_
 have hml : p.m.length + 1 = (p.m ++ [plP ⟨k, num, t, [], []⟩]).length := by simp
 rw [← grC_snoc, hml]
 refine EffW.appTo (i := 0) (q := 2) (ys := [_]) (ddC S (addP st ⟨k, num, t, [], []⟩) { p with m := p.m ++ [plP ⟨k, num, t, [], []⟩], ga := some ⟨gb, 0, none⟩, gc := gc' }) 6 rfl rfl rfl rfl rfl rfl rfl (Nat.le_of_ble_eq_true rfl) rfl rfl ?_
 refine wX ?_
 refine LdN.one (a := some ⟨rb, 0, none⟩) (q := 2) (.slice (some ⟨gb, 0, none⟩) (p.m ++ [plP ⟨k, num, t, [], []⟩]).length gc') rfl (fun w hw => hw.1) rfl ?_
 refine wX ?_
 have e1 : ((p.m ++ [plP ⟨k, num, t, [], []⟩]).length : Int) - 1 = (p.m.length : Int) := by rw [← hml]; omega
 rw [e1]
 exact ⟨(gb, gc'), trivial, rfl, wHH⟩
end Go.Proofs.YtgogonnnojcioaaGreatDoor
namespace Go.AX
structure RowD where
 T : TypeId
 sz : Nat
 n : Nat
 xs : List Value
 b : Nat
 cap : Nat
def RowD.ok (r : RowD) (w : World) : Prop := RowF r.T r.sz r.n r.xs r.b r.cap w
def famB (l : List RowD) (b : Nat) : Prop := ∃ r ∈ l, r.b = b
def famF (l : List RowD) (w : World) : Prop := (l.map RowD.b).Nodup ∧ ∀ r ∈ l, r.ok w
def famE (l : List RowD) : Ent := .fam (famB l) (famF l)
theorem famF.imm {l : List RowD} {w : World} (h : famF l w) : Imm (famB l) w (famF l) :=
 ⟨h, fun _ hw => ⟨h.1, fun r hr => (h.2 r hr).move (hw r.b ⟨r, hr, rfl⟩)⟩⟩
theorem rowF_lt {T : TypeId} {sz n : Nat} {xs : List Value} {b cap : Nat} {w : World} (h : RowF T sz n xs b cap w) : b < w.heap.size := by
 obtain ⟨arr, fr, ⟨h1, _⟩, _⟩ := h
 exact (Array.getElem?_eq_some_iff.1 h1).1
theorem famE_ok {ρ : List Loc} {S : Nat → Prop} {w : World} {i : Nat} {l : List RowD} (h : famF l w) : EntOk ρ S w i (famE l) :=
 ⟨h.imm, fun _ ⟨r, hr, hb⟩ => hb ▸ rowF_lt (h.2 r hr)⟩
theorem famF_nil (w : World) : famF [] w := ⟨List.nodup_nil, fun r h => by cases h⟩
def TurnE (H G : List Ent) : Prop := G.length = H.length ∧ ∀ (ρ : List Loc) (S : Nat → Prop) (w : World), Sat ρ S H w → Sat ρ S G w ∧ Ev ρ S H w ρ S G w
theorem TurnE.s {H G : List Ent} (h : TurnE H G) : TurnS H G := ⟨h.1, fun ρ S w hs => ⟨S, h.2 ρ S w hs⟩⟩
theorem TurnE.refl (H : List Ent) : TurnE H H := ⟨rfl, fun _ _ _ hs => ⟨hs, Ev.refl _ _ _ _⟩⟩
theorem TurnE.trans {H G J : List Ent} (h : TurnE H G) (k : TurnE G J) : TurnE H J :=
 ⟨k.1.trans h.1, fun ρ S w hs => by
  obtain ⟨h1, e1⟩ := h.2 ρ S w hs
  obtain ⟨h2, e2⟩ := k.2 ρ S w h1
  exact ⟨h2, e1.trans e2⟩⟩
theorem TurnS.trans {H G J : List Ent} (h : TurnS H G) (k : TurnS G J) : TurnS H J :=
 ⟨k.1.trans h.1, fun ρ S w hs => by
  obtain ⟨S1, h1, e1⟩ := h.2 ρ S w hs
  obtain ⟨S2, h2, e2⟩ := k.2 ρ S1 w h1
  exact ⟨S2, h2, e1.trans e2⟩⟩
theorem Sat.two {ρ : List Loc} {S : Nat → Prop} {H : List Ent} {w : World} (h : Sat ρ S H w) {i j : Nat} {e f e' f' : Ent} (hi : H[i]? = some e) (hj : H[j]? = some f) (hne : i ≠ j)
  (hb : ∀ b, entB ρ i e' b ∨ entB ρ j f' b → entB ρ i e b ∨ entB ρ j f b) (hx : ∀ b, entB ρ i e' b → ¬ entB ρ j f' b) (ke : EntOk ρ S w i e') (kf : EntOk ρ S w j f') :
  Sat ρ S ((H.set i e').set j f') w ∧ Ev ρ S H w ρ S ((H.set i e').set j f') w := by
 have hil := (List.getElem?_eq_some_iff.1 hi).1
 have hjl := (List.getElem?_eq_some_iff.1 hj).1
 have hcase : ∀ (k : Nat) (g : Ent), ((H.set i e').set j f')[k]? = some g → (k = i ∧ g = e') ∨ (k = j ∧ g = f') ∨ (k ≠ i ∧ k ≠ j ∧ H[k]? = some g) := fun k g hk => by
  by_cases h2 : k = j
  ·subst h2
   rw [List.getElem?_set_self (by rw [List.length_set]; exact hjl)] at hk
   exact .inr (.inl ⟨rfl, (Option.some.inj hk).symm⟩)
  ·rw [List.getElem?_set_ne (fun e => h2 e.symm)] at hk
   by_cases h1 : k = i
   ·subst h1
    rw [List.getElem?_set_self hil] at hk
    exact .inl ⟨rfl, (Option.some.inj hk).symm⟩
   ·rw [List.getElem?_set_ne (fun e => h1 e.symm)] at hk
    exact .inr (.inr ⟨h1, h2, hk⟩)
 have hown : ∀ (k : Nat) (g : Ent) (b : Nat), ((H.set i e').set j f')[k]? = some g → entB ρ k g b → (k = i ∨ k = j) ∧ (entB ρ i e b ∨ entB ρ j f b) ∨ (k ≠ i ∧ k ≠ j ∧ H[k]? = some g) := fun k g b hk hg => by
  rcases hcase k g hk with ⟨rfl, rfl⟩ | ⟨rfl, rfl⟩ | h3
  ·exact .inl ⟨.inl rfl, hb b (.inl hg)⟩
  ·exact .inl ⟨.inr rfl, hb b (.inr hg)⟩
  ·exact .inr h3
 have hno : ∀ (k : Nat) (g : Ent) (b : Nat), k ≠ i → k ≠ j → H[k]? = some g → entB ρ k g b → ¬ (entB ρ i e b ∨ entB ρ j f b) := fun k g b h1 h2 hk hg hh => by
  rcases hh with hh | hh
  ·exact h1 (h.inj k i g e b hk hi hg hh)
  ·exact h2 (h.inj k j g f b hk hj hg hh)
 have hmb : ∀ b, mb ρ ((H.set i e').set j f') b → mb ρ H b := fun b ⟨k, g, hk, hg⟩ => by
  rcases hown k g b hk hg with ⟨_, h1 | h1⟩ | ⟨_, _, h1⟩
  ·exact ⟨i, e, hi, h1⟩
  ·exact ⟨j, f, hj, h1⟩
  ·exact ⟨k, g, h1, hg⟩
 refine ⟨⟨by rw [List.length_set, List.length_set]; exact h.len, fun k g hk => ?_, fun k l g g2 b hk hl hg hg2 => ?_, fun b hb => h.out b (hmb b hb), h.low⟩, ⟨⟨[], by simp⟩, rfl, rfl, rfl, Nat.le_refl _, fun _ _ _ => rfl, fun _ h => .inl h, fun b hb => .inl (hmb b hb)⟩⟩
 ·rcases hcase k g hk with ⟨rfl, rfl⟩ | ⟨rfl, rfl⟩ | ⟨_, _, h3⟩
  ·exact ke
  ·exact kf
  ·exact h.ent k g h3
 ·rcases hcase k g hk with ⟨rfl, rfl⟩ | ⟨rfl, rfl⟩ | ⟨k1, k2, h3⟩ <;> rcases hcase l g2 hl with ⟨rfl, rfl⟩ | ⟨rfl, rfl⟩ | ⟨l1, l2, h4⟩
  ·rfl
  ·exact absurd hg2 (hx b hg)
  ·exact absurd (hb b (.inl hg)) (hno l g2 b l1 l2 h4 hg2)
  ·exact absurd hg (hx b hg2)
  ·rfl
  ·exact absurd (hb b (.inr hg)) (hno l g2 b l1 l2 h4 hg2)
  ·exact absurd (hb b (.inl hg2)) (hno k g b k1 k2 h3 hg)
  ·exact absurd (hb b (.inr hg2)) (hno k g b k1 k2 h3 hg)
  ·exact h.inj k l g g2 b h3 h4 hg hg2
theorem famPut {H : List Ent} (i j : Nat) {l l' : List RowD} {T : TypeId} {sz n b cap : Nat} {xs : List Value} (hi : nthE H i = some (famE l)) (hj : nthE H j = some (.app T sz xs (some ⟨b, 0, none⟩) n cap)) (hne : Nat.beq i j = false) (hp : (⟨T, sz, n, xs, b, cap⟩ :: l).Perm l') : TurnE H ((H.set i (famE l')).set j .dead) := by
 rw [nthE_eq] at hi hj
 refine ⟨by rw [List.length_set, List.length_set], fun ρ S w hs => ?_⟩
 have hF : famF l w := (hs.ent i _ hi).1.1
 have hij := Nat.ne_of_beq_eq_false hne
 rcases hs.ent j _ hj with ⟨h0, _⟩ | ⟨b', hb', hrow⟩
 ·cases h0
 cases hb'
 have hnb : b ∉ l.map RowD.b := fun hm => by
  obtain ⟨r, hr, hrb⟩ := List.mem_map.1 hm
  exact hij (hs.inj i j _ _ b hi hj ⟨r, hr, hrb⟩ rfl)
 have hF' : famF l' w := ⟨(hp.map RowD.b).nodup_iff.1 (List.nodup_cons.2 ⟨hnb, hF.1⟩), fun q hq => by
  rcases List.mem_cons.1 (hp.mem_iff.2 hq) with rfl | hq
  ·exact hrow
  ·exact hF.2 q hq⟩
 refine hs.two hi hj hij (fun c hc => ?_) (fun _ _ hb => hb) (famE_ok hF') trivial
 rcases hc with ⟨q, hq, hqb⟩ | hc
 ·rcases List.mem_cons.1 (hp.mem_iff.2 hq) with rfl | hq
  ·exact .inr (congrArg some hqb)
  ·exact .inl ⟨q, hq, hqb⟩
 ·exact hc.elim
theorem famNew {H : List Ent} (i : Nat) (hi : nthE H i = some .dead) : TurnE H (H.set i (famE [])) := by
 rw [nthE_eq] at hi
 refine ⟨by rw [List.length_set], fun ρ S w hs => ?_⟩
 have hget : ∀ (j : Nat) (f : Ent), (H.set i (famE []))[j]? = some f → f = famE [] ∨ H[j]? = some f := fun j f hf => by
  by_cases hj : i = j
  ·subst hj
   rw [List.getElem?_set_self (List.getElem?_eq_some_iff.1 hi).1] at hf
   exact .inl (Option.some.inj hf).symm
  ·rw [List.getElem?_set_ne hj] at hf
   exact .inr hf
 have hb : ∀ (j : Nat) (f : Ent) (b : Nat), (H.set i (famE []))[j]? = some f → entB ρ j f b → H[j]? = some f := fun j f b hf hfb => by
  rcases hget j f hf with rfl | h1
  ·obtain ⟨r, hr, _⟩ := hfb; cases hr
  ·exact h1
 have hmb : ∀ b, mb ρ (H.set i (famE [])) b → mb ρ H b := fun b ⟨j, f, hf, hfb⟩ => ⟨j, f, hb j f b hf hfb, hfb⟩
 exact ⟨⟨by simp [hs.len], fun j f hf => by
   rcases hget j f hf with rfl | h1
   ·exact famE_ok (famF_nil w)
   ·exact hs.ent j f h1,
  fun j k f g b hf hg hfb hgb => hs.inj j k f g b (hb j f b hf hfb) (hb k g b hg hgb) hfb hgb, fun b hbb => hs.out b (hmb b hbb), hs.low⟩,
  ⟨⟨[], by simp⟩, rfl, rfl, rfl, Nat.le_refl _, fun _ _ _ => rfl, fun _ h => .inl h, fun b hbb => .inl (hmb b hbb)⟩⟩
def Ent.bare : Ent → Bool
 | .app .. => true
 | .mp .. => true
 | .fam .. => true
 | .dead => true
 | _ => false
theorem EntOk.bare {ρ ρ' : List Loc} {S S' : Nat → Prop} {w : World} {i j : Nat} {e : Ent} (he : e.bare = true) (h : EntOk ρ S w i e) : EntOk ρ' S' w j e := by
 cases e <;> first | (cases he; done) | exact h
theorem entB_bare {ρ ρ' : List Loc} {i j b : Nat} {e : Ent} (he : e.bare = true) (h : entB ρ i e b) : entB ρ' j e b := by
 cases e <;> first | (cases he; done) | exact h
def appsK : List Ent → List Ent → (List Ent → Prop) → Prop
 | H, [], K => K H
 | H, e :: N, K => snocK H e 0 fun H' _ => appsK H' N K
theorem appsK_eq : ∀ (N H : List Ent) (K : List Ent → Prop), appsK H N K = K (H ++ N)
 | [], H, K => by simp [appsK]
 | e :: N, H, K => by
  unfold appsK
  rw [snocK_eq, appsK_eq N]
  simp
theorem factG {P : Program} {f : FuncId} {xs : List Value} {F : World → Prop} {ι : Type} {inv : ι → Prop} {val : ι → Value} {N : ι → List Ent} (hN : ∀ i, (N i).all Ent.bare = true)
  (h : SpecH P f (pvs xs) [.fact F] (RetG inv val fun i => .dead :: N i)) {H : List Ent} (hF : ∀ w, Facts H w → F w) {K : Out → List Ent → Prop} (hk : ∀ i, inv i → appsK H (N i) fun G => K (.val (.c (.v (val i)))) G) : SpecH P f (pvs xs) H K := by
 refine ⟨h.ok, fun ρ S w vs hs hr => ?_⟩
 have h0 : Sat [⟨0, 0⟩] (fun b => S b ∨ appB H b) [.fact F] w := by
  refine ⟨rfl, fun i e he => ?_, fun i j e f b he hf heo => ?_, fun b hb => ?_, fun b hb => ?_⟩
  ·match i, he with
   | 0, he => simp at he; subst he; exact hs.imm.mono hF
  ·match i, he with
   | 0, he => simp at he; subst he; exact heo.elim
  ·obtain ⟨i, e, he, ho⟩ := hb
   match i, he with
   | 0, he => simp at he; subst he; exact ho.elim
  ·rcases hb with hb | hb
   ·exact hs.low b hb
   ·obtain ⟨i, e, he, heb⟩ := appB_mb (ρ := ρ) hb
    exact hs.blk_lt he heb
 have nomb : ∀ b, ¬ mb [⟨0, 0⟩] [Ent.fact F] b := by
  rintro b ⟨i, e, he, ho⟩
  match i, he with
  | 0, he => simp at he; subst he; exact ho.elim
 obtain rfl := RelS_pvs hr
 refine (h.run _ _ w vs h0 (pvs_rel _ vs)).mono fun e w' ⟨ρ', S', H', out, hs', hev, hout, i, hi, ho, hH⟩ => ?_
 subst ho
 subst hH
 have hk := hk i hi
 rw [appsK_eq] at hk
 have hnew : ∀ (k : Nat) (g : Ent) (b : Nat), (N i)[k]? = some g → entB ρ' (k + 1) g b → w.heap.size ≤ b := fun k g b hg hb => (hev.own b ⟨k + 1, g, by simpa using hg, hb⟩).resolve_left (nomb b)
 have hbr : ∀ (k : Nat) (g : Ent), (N i)[k]? = some g → g.bare = true := fun k g hg => List.all_eq_true.1 (hN i) g (List.mem_of_getElem? hg)
 have hbel : ∀ b, b < w.heap.size → w'.heap[b]? = w.heap[b]? := fun b hb => hev.keep b hb (nomb b)
 have hcase : ∀ (k : Nat) (g : Ent), (H ++ N i)[k]? = some g → (k < H.length ∧ H[k]? = some g) ∨ (H.length ≤ k ∧ (N i)[k - H.length]? = some g) := fun k g hg => by
  by_cases hk : k < H.length
  ·rw [List.getElem?_append_left hk] at hg; exact .inl ⟨hk, hg⟩
  ·rw [List.getElem?_append_right (by omega)] at hg
   exact .inr ⟨by omega, hg⟩
 have hown : ∀ (k : Nat) (g : Ent) (b : Nat), (H ++ N i)[k]? = some g → entB (ρ ++ List.replicate (N i).length ⟨0, 0⟩) k g b → (k < H.length ∧ H[k]? = some g ∧ entB ρ k g b ∧ b < w.heap.size) ∨ (H.length ≤ k ∧ (N i)[k - H.length]? = some g ∧ entB ρ' (k - H.length + 1) g b ∧ w.heap.size ≤ b) := fun k g b hg hb => by
  rcases hcase k g hg with ⟨h1, h2⟩ | ⟨h1, h2⟩
  ·rw [entB_pre _ (by rw [hs.len]; exact h1)] at hb
   exact .inl ⟨h1, h2, hb, hs.blk_lt h2 hb⟩
  ·have h3 : entB ρ' (k - H.length + 1) g b := entB_bare (hbr _ g h2) hb
   exact .inr ⟨h1, h2, h3, hnew _ g b h2 h3⟩
 have hmb : ∀ b, mb (ρ ++ List.replicate (N i).length ⟨0, 0⟩) (H ++ N i) b → mb ρ H b ∨ w.heap.size ≤ b := fun b ⟨k, g, hg, hb⟩ => by
  rcases hown k g b hg hb with ⟨_, h2, h3, _⟩ | ⟨_, _, _, h4⟩
  ·exact .inl ⟨k, g, h2, h3⟩
  ·exact .inr h4
 refine ⟨ρ ++ List.replicate (N i).length ⟨0, 0⟩, S, H ++ N i, .val (.c (.v (val i))), ⟨by simp [hs.len], fun k g hg => ?_, fun k l g g2 b hg hg2 hb hb2 => ?_, fun b hb hS => ?_, fun b hb => Nat.lt_of_lt_of_le (hs.low b hb) hev.size⟩, ⟨⟨_, rfl⟩, hev.os, hev.tape, hev.output, hev.size, fun b hb _ => hbel b hb, fun b hb => .inl hb, hmb⟩, hout, hk⟩
 ·rcases hcase k g hg with ⟨h1, h2⟩ | ⟨h1, h2⟩
  ·exact (hs.ent k g h2).move _ (fun b hb => hbel b (hs.blk_lt h2 hb)) fun b hb => hbel b (hs.low b hb)
  ·exact EntOk.bare (hbr _ g h2) (hs'.ent (k - H.length + 1) g (by simpa using h2))
 ·rcases hown k g b hg hb with ⟨_, h2, h3, h4⟩ | ⟨h1, h2, h3, h4⟩ <;> rcases hown l g2 b hg2 hb2 with ⟨_, k2, k3, k4⟩ | ⟨k1, k2, k3, k4⟩
  ·exact hs.inj k l g g2 b h2 k2 h3 k3
  ·omega
  ·omega
  ·have := hs'.inj (k - H.length + 1) (l - H.length + 1) g g2 b (by simpa using h2) (by simpa using k2) h3 k3
   omega
 ·rcases hmb b hb with h1 | h1
  ·exact hs.out b h1 hS
  ·have := hs.low b hS; omega
end Go.AX
namespace Go.Proofs.YtgogonnnojcioaaGreatDoor
open Go.AX Go.RowKit Go.Core
set_option maxRecDepth 20000
def rowsP (p : CellP) : List RowD :=
 (match p.na with | some ad => [⟨9, 1, p.c.names.length, strC p.c.names, ad.block, p.nc⟩] | none => []) ++ (match p.ia with | some ad => [⟨3, 1, p.c.items.length, iC p.c.items, ad.block, p.ic⟩] | none => [])
def rowsG (m : List CellP) : List RowD := m.flatMap rowsP
theorem rowsG_snoc (m : List CellP) (p : CellP) : rowsG (m ++ [p]) = rowsG m ++ rowsP p := by unfold rowsG; rw [List.flatMap_append]; simp
structure OwnP (p : CellP) : Prop where
 na : ∀ ad, p.na = some ad → ad = ⟨ad.block, 0, none⟩
 ia : ∀ ad, p.ia = some ad → ad = ⟨ad.block, 0, none⟩
theorem rowF_sl {T : TypeId} {sz n : Nat} {xs : List Value} {b cap : Nat} {w : World} (h : RowF T sz n xs b cap w) : SlAt (some ⟨b, 0, none⟩) (n * sz) xs w := h.sl
theorem cellF_rows {p : CellP} (ho : CellOk p) (hw : OwnP p) {w : World} (h : ∀ r ∈ rowsP p, r.ok w) : CellF p w := by
 refine ⟨?_, ?_⟩
 ·cases hn : p.na with
  | none => rw [ho.na hn]; exact SlAt.nil
  | some ad =>
   rw [hw.na ad hn]
   exact rowF_sl (h ⟨9, 1, p.c.names.length, strC p.c.names, ad.block, p.nc⟩ (by unfold rowsP; rw [hn]; simp))
 ·cases hn : p.ia with
  | none => rw [ho.ia hn]; exact SlAt.nil
  | some ad =>
   rw [hw.ia ad hn]
   exact rowF_sl (h ⟨3, 1, p.c.items.length, iC p.c.items, ad.block, p.ic⟩ (by unfold rowsP; rw [hn]; simp))
theorem grF_rows {m : List CellP} (ho : ∀ p ∈ m, CellOk p) (hw : ∀ p ∈ m, OwnP p) {w : World} (h : famF (rowsG m) w) : ∀ p ∈ m, CellF p w := fun p hp =>
 cellF_rows (ho p hp) (hw p hp) fun r hr => h.2 r (List.mem_flatMap.2 ⟨p, hp, hr⟩)
def ownN (T : TypeId) (st : DSt) : List Ent := [.app T 5 (grC st.m) st.oa st.m.length st.oc, famE (rowsG st.m)]
structure OInv (l : List CellP) (st : DSt) : Prop where
 oa : st.oa = none → st.m = []
 c : st.m.map (·.c) = l.map (·.c)
 ok : ∀ p ∈ st.m, CellOk p
 own : ∀ p ∈ st.m, OwnP p
 cap : st.m.length ≤ st.oc
theorem OInv.gr {l : List CellP} {st : DSt} (h : OInv l st) {w : World} (h1 : SlAt st.oa (st.m.length * 5) (grC st.m) w) (h2 : famF (rowsG st.m) w) : GrF st.oa st.m w := ⟨h1, grF_rows h.ok h.own h2⟩
set_option maxHeartbeats 4000000 in
theorem as_o (a : Option Addr) (ca : Nat) (l : List CellP) (ha : a = none → l = []) (hs : Small l) (hok : ∀ p ∈ l, CellOk p) : SpecH Tryz.prog 32 (pvs [.slice a l.length ca]) [.fact (GrF a l)] (RetG (OInv l) (fun st => .slice st.oa st.m.length st.oc) (fun st => .dead :: ownN 87 st)) := by
 obtain ⟨hl, hsm⟩ := hs
 refine ownC hm Tryz.func32 (by kernel_rfl) rfl rfl (fun _ _ => okHB_eq rfl) (fun _ _ => by show 1 ≤ 3; decide) ?_
 refine wX ?_
 refine LoopN.introS DSt (fun st => DInv l st ∧ ∀ p ∈ st.m, OwnP p) (fun ⟨i, oa, oc, m⟩ => mkS 35 0 [(0, .c (.v (.slice a l.length ca))), (3, .c (.v (.slice oa m.length oc))), (4, .c (.v (.int .i64 (i : Int))))]) (fun ⟨i, oa, oc, m⟩ => [.fact (GrF a l), .app 87 5 (grC m) oa m.length oc, famE (rowsG m)]) (fun ⟨i, _, _, _⟩ => l.length - i) [.app 87 5 [] none 0 0, .dead] rfl (fun _ => rfl) (fun _ => rfl) (fun _ _ => ⟨trivial, trivial, trivial, trivial⟩) ?_ ?_
 ·refine ⟨⟨0, none, 0, []⟩, ⟨⟨Nat.zero_le _, rfl, (fun p h => by cases h), (fun _ => rfl), Nat.le_refl _⟩, fun p h => by cases h⟩, ?_, _, (famNew 2 rfl).s, ?_⟩
  ·exact wKK
  ·exact ⟨wkE_refl _, wkE_refl _, wkE_refl _, trivial⟩
 rintro ⟨i, oa, oc, m⟩ ⟨hinv, hom⟩
 have hml := hinv.len
 obtain ⟨hi, hmc, hmo, hoa, hoc⟩ := hinv
 refine wX ?_
 refine brd_dec (fun h1 => ?_) (fun h1 => ?_)
 ·obtain ⟨p, hp⟩ : ∃ p, l[i]? = some p := ⟨_, List.getElem?_eq_getElem (by omega)⟩
  have hpm := List.mem_of_getElem? hp
  have hpo := hok p hpm
  obtain ⟨hnl, hil⟩ := hsm p hpm
  have hsa : a.isSome = true := by
   cases a with
   | none => rw [ha rfl] at hp; cases hp
   | some b => rfl
  refine wX ?_
  refine Nd.mk ⟨hsa, by omega, by omega⟩ ?_
  refine wX ?_
  refine LdN.agg (cellC p) rfl (fun w hw => hw.1.1) rfl (fun k hk => by rw [Int.toNat_natCast]; exact grC_get l i k hk hp) ?_
  refine wXB ?_
  refine BoxN.known [.int .i64 0, .int .i64 0, .string { data := #[] }, .slice none 0 0, .slice none 0 0] rfl fun cb => ?_
  refine wXB ?_
  refine EffW.appTo (i := 3) (q := 0) (ys := cellC p) (cellC p) 5 rfl rfl rfl rfl rfl rfl rfl (Nat.le_of_ble_eq_true rfl) rfl rfl ?_
  refine wXB ?_
  refine DrawN.planK hm (fun w => SlAt (some ⟨cb, 0, none⟩) 5 (cellC p) w) [7, 11] [0, 1, 3, 5, 8, 12] [(9, 1), (2, 1), (4, 1), (6, 1), (13, 1), (7, 2), (10, 0), (11, 2), (14, 0), (15, 0), (16, 0), (17, 0), (18, 0)] (by decide +kernel) (fun w hw => hw.2.2.2.1) ?_
  refine wXP ?_
  refine ReadC.one (a := some ⟨cb, 0, none⟩) (q := 3) (.slice p.na p.c.names.length p.nc) rfl rfl rfl (fun w hw => hw) rfl ?_
  refine wXP ?_
  refine ReadC.one (a := some ⟨cb, 0, none⟩) (q := 0) (.int .i64 p.c.kind) rfl rfl rfl (fun w hw => hw) rfl ?_
  refine wXP ?_
  refine ReadC.one (a := some ⟨cb, 0, none⟩) (q := 1) (.int .i64 p.c.num) rfl rfl rfl (fun w hw => hw) rfl ?_
  refine wXP ?_
  refine ReadC.one (a := some ⟨cb, 0, none⟩) (q := 2) (.string (bs p.c.text)) rfl rfl rfl (fun w hw => hw) rfl ?_
  refine wXP ?_
  refine ReadC.one (a := some ⟨cb, 0, none⟩) (q := 4) (.slice p.ia p.c.items.length p.ic) rfl rfl rfl (fun w hw => hw) rfl ?_
  refine wXP ?_
  intro nb
  refine wXP ?_
  refine app_any 4 [] (strC p.c.names) rfl (Nat.le_refl _) (fun h => by cases hq : p.na with | none => rw [hpo.na hq] at h; cases h | some b => rfl) (by show (strC p.c.names).length = p.c.names.length * 1; simp [strC]) (fun u hu => by obtain ⟨x, _, rfl⟩ := List.mem_map.1 hu; rfl) (fun w hw j v hv => (hw.1.2 p hpm).1.cell hv) ⟨⟨by show (0 + p.c.names.length) * 16 ≤ _; omega, by omega⟩, Nat.one_ne_zero⟩ fun nb2 nc2 hnc2 => ?_
  rw [Nat.zero_add, List.nil_append]
  refine wXP ?_
  intro ib
  refine wXP ?_
  refine app_any 5 [] (iC p.c.items) rfl (Nat.le_refl _) (fun h => by cases hq : p.ia with | none => rw [hpo.ia hq] at h; cases h | some b => rfl) (by show (iC p.c.items).length = p.c.items.length * 1; simp [iC]) (fun u hu => by obtain ⟨x, _, rfl⟩ := List.mem_map.1 hu; rfl) (fun w hw j v hv => (hw.1.2 p hpm).2.cell hv) ⟨⟨by show (0 + p.c.items.length) * 8 ≤ _; omega, by omega⟩, Nat.one_ne_zero⟩ fun ib2 ic2 hic2 => ?_
  rw [Nat.zero_add, List.nil_append]
  refine wXP ?_
  refine RwN.own ?_
  refine wXP ?_
  refine Nd.mk ⟨Nat.le_refl 1, rfl, rfl⟩ ?_
  (conv => whnf)
  refine AppN.grow 1 (grC m) (cellC ⟨p.c, some ⟨nb2, 0, none⟩, nc2, some ⟨ib2, 0, none⟩, ic2⟩) rfl rfl ⟨Nat.le_refl 1, ⟨by show (m.length + 1) * 80 ≤ _; omega, by omega⟩, by decide⟩ fun ob2 oc2 hoc2 _ => ?_
  refine wXP ?_
  have hm2 : m.length + 1 = (m ++ [(⟨p.c, some ⟨nb2, 0, none⟩, nc2, some ⟨ib2, 0, none⟩, ic2⟩ : CellP)]).length := by simp
  have hg2 := grC_snoc m ⟨p.c, some ⟨nb2, 0, none⟩, nc2, some ⟨ib2, 0, none⟩, ic2⟩
  have hrw := rowsG_snoc m ⟨p.c, some ⟨nb2, 0, none⟩, nc2, some ⟨ib2, 0, none⟩, ic2⟩
  refine ⟨⟨i + 1, some ⟨ob2, 0, none⟩, oc2, m ++ [⟨p.c, some ⟨nb2, 0, none⟩, nc2, some ⟨ib2, 0, none⟩, ic2⟩]⟩, ⟨⟨by omega, ?_, ?_, (fun h => by cases h), by omega⟩, ?_⟩, by show l.length - (i + 1) < l.length - i; omega, ?_, _, ((famPut 2 4 rfl rfl rfl (List.perm_append_singleton _ _).symm).trans (famPut 2 5 rfl rfl rfl (List.perm_append_singleton _ _).symm)).s, ?_⟩
  ·rw [List.take_add_one, hp, List.map_append, List.map_append, hmc]
   rfl
  ·intro q hq
   rcases List.mem_append.1 hq with hq | hq
   ·exact hmo q hq
   ·rw [List.mem_singleton.1 hq]
    exact ⟨(fun h => by cases h), (fun h => by cases h), hpo.nl, hpo.il, hpo.nw, hpo.tl, by show p.c.names.length ≤ nc2; omega, by show p.c.items.length ≤ ic2; omega⟩
  ·intro q hq
   rcases List.mem_append.1 hq with hq | hq
   ·exact hom q hq
   ·rw [List.mem_singleton.1 hq]
    exact ⟨fun ad h => by cases h; rfl, fun ad h => by cases h; rfl⟩
  ·(repeat' (first | exact trivial | refine And.intro (by with_reducible rfl) ?_ | (with_reducible exact wkC_refl _) | (with_reducible exact wkCs_refl _) | refine And.intro ?_ ?_))
   all_goals first | rfl | exact av_int (by omega) | (rw [hm2])
  ·show wkH _ [Ent.fact (GrF a l), .app 87 5 (grC (m ++ [_])) _ (m ++ [_]).length _, famE (rowsG (m ++ [_]))]
   rw [← hm2, hg2, hrw]
   refine ⟨wkE_refl _, wkE_refl _, ?_, trivial⟩
   rw [show rowsP (⟨p.c, some ⟨nb2, 0, none⟩, nc2, some ⟨ib2, 0, none⟩, ic2⟩ : CellP) = [⟨9, 1, p.c.names.length, strC p.c.names, nb2, nc2⟩] ++ [⟨3, 1, p.c.items.length, iC p.c.items, ib2, ic2⟩] from rfl, ← List.append_assoc]
   exact wkE_refl _
 ·have hil : i = l.length := by omega
  subst hil
  rw [List.take_length] at hmc
  refine wX ?_
  exact ⟨⟨l.length, oa, oc, m⟩, ⟨hoa, hmc, hmo, hom, hoc⟩, rfl, trivial, wkE_refl _, wkE_refl _, trivial⟩
end Go.Proofs.YtgogonnnojcioaaGreatDoor
