/-
  Plain Lean: parts that are written are read again.
-/
import Derived.Test.YtfcjgklghgpddaaDoorG2
namespace Go.Erb

/-- What may stand behind a text: nothing, or a tag. -/
def tagAt (z : B) : Prop := z = [] ∨ ∃ y, z = 60 :: 37 :: y ∧ [37].isPrefixOf y = false
theorem rd_esc_app (z : B) (hz : tagAt z) : ∀ (n : Nat) (s pre t fp : B) (out : List Part), s.length ≤ n → rdN false pre (esc s ++ z) t fp out = rdN false (pre ++ esc s) z (t ++ s) (if s.isEmpty then fp else fpOf t fp pre) out
  | _, [], pre, t, fp, out, _ => by simp [esc]
  | 0, _ :: _, _, _, _, _, h => by simp at h
  | n + 1, c :: r, pre, t, fp, out, hn => by
    unfold esc
    split
    · rename_i h
      obtain ⟨r', hr⟩ : ∃ r', r = 37 :: r' := by
        cases r with
        | nil => simp [List.isPrefixOf] at h
        | cons d r => simp [List.isPrefixOf] at h; exact ⟨r, by rw [← h.2]⟩
      subst hr
      have hc : c = 60 := by simp [List.isPrefixOf] at h; exact h.symm
      subst hc
      rw [List.cons_append, rdN_cons]
      simp only [Bool.false_and, Bool.false_eq_true, if_false]
      rw [if_pos (by simp [List.isPrefixOf])]
      simp only [List.cons_append, List.drop_succ_cons, List.drop_zero]
      rw [rd_esc_app z hz n r' _ _ _ _ (by simp at hn; omega)]
      simp [fpOf]
    · rename_i h
      rw [List.cons_append, rdN_cons]
      simp only [Bool.false_and, Bool.false_eq_true, if_false]
      have h1 : ¬ [60, 37].isPrefixOf (c :: (esc r ++ z)) = true := by
        simp only [List.isPrefixOf, Bool.and_eq_true, beq_iff_eq] at h ⊢
        rintro ⟨h2, h3⟩
        cases r with
        | nil =>
          rcases hz with rfl | ⟨y, rfl, _⟩
          · simp [esc] at h3
          · simp [esc] at h3
        | cons d r =>
          refine h ⟨h2, ?_⟩
          have := esc_head 37 (d :: r)
          simp only [List.isPrefixOf, Bool.and_true] at this ⊢
          rw [← this]
          cases he : esc (d :: r) with
          | nil => unfold esc at he; split at he <;> cases he
          | cons x y => rw [he] at h3; simpa [List.isPrefixOf] using h3
      have h2 : ¬ [60, 37, 37].isPrefixOf (c :: (esc r ++ z)) = true := fun h3 => h1 (by
        rw [List.isPrefixOf_iff_prefix] at h3 ⊢
        exact List.IsPrefix.trans ⟨[37], rfl⟩ h3)
      rw [if_neg h2, if_neg h1, rd_esc_app z hz n r _ _ _ _ (by simpa using hn)]
      simp [fpOf]

/-- The inside of a tag, written. -/
def repl : B → B
  | [] => []
  | c :: r => if [37, 62].isPrefixOf (c :: r) then 37 :: 37 :: 62 :: repl (r.drop 1) else c :: repl r
termination_by s => s.length
def ends (t : B) (c : UInt8) : Bool := match t.getLast? with | some d => d == c | none => false
theorem ends_cons {t : B} {c d : UInt8} (h : ends (d :: t) c = false) : ends t c = false := by
  cases t with
  | nil => rfl
  | cons x t => simpa [ends] using h
theorem repl_head (c : UInt8) (r : B) : (repl (c :: r)).head? = some c := by
  unfold repl
  split
  · rename_i h
    cases r <;> simp [List.isPrefixOf] at h
    simp [h.1]
  · rfl
theorem repl_app_head (r z : B) (hr : r ≠ []) : (repl r ++ z).head? = r.head? := by
  cases r with
  | nil => exact absurd rfl hr
  | cons c r =>
    have h := repl_head c r
    cases he : repl (c :: r) with
    | nil => rw [he] at h; cases h
    | cons x y => rw [he] at h; simpa using h
/-- Two bytes ahead in what is written. -/
theorem repl_two (r z : B) (h45 : ends r 37 = false) : ∀ q, (repl r ++ 37 :: 62 :: z) = 37 :: 62 :: q → r = [] := by
  intro q hq
  cases r with
  | nil => rfl
  | cons c r =>
    unfold repl at hq
    split at hq
    · simp at hq
    · rename_i h
      simp only [List.cons_append, List.cons.injEq] at hq
      obtain ⟨rfl, hq⟩ := hq
      cases r with
      | nil => simp [ends] at h45
      | cons d r =>
        have := repl_app_head (d :: r) (37 :: 62 :: z) (by simp)
        rw [hq] at this
        simp at this
        subst this
        simp [List.isPrefixOf] at h
theorem tg_repl (z : B) : ∀ (n : Nat) (c pre acc : B), c.length ≤ n → ends c 45 = false → ends c 37 = false → tgN pre (repl c ++ 37 :: 62 :: z) acc = some (pre ++ repl c ++ [37, 62], z, acc ++ c)
  | _, [], pre, acc, _, _, _ => by
    simp only [repl, List.nil_append]
    rw [tgN_cons, if_neg (by simp [List.isPrefixOf]), if_neg (by simp [List.isPrefixOf]), if_pos (by simp [List.isPrefixOf])]
    simp
  | 0, _ :: _, _, _, h, _, _ => by simp at h
  | n + 1, x :: r, pre, acc, hn, h45, h37 => by
    have e45 := ends_cons h45
    have e37 := ends_cons h37
    unfold repl
    split
    · rename_i h
      obtain ⟨r', hr⟩ : ∃ r', r = 62 :: r' := by
        cases r with
        | nil => simp [List.isPrefixOf] at h
        | cons d r => simp [List.isPrefixOf] at h; exact ⟨r, by rw [← h.2]⟩
      subst hr
      have hx : x = 37 := by simp [List.isPrefixOf] at h; exact h.symm
      subst hx
      rw [List.cons_append, tgN_cons, if_pos (by simp [List.isPrefixOf])]
      simp only [List.cons_append, List.drop_succ_cons, List.drop_zero]
      rw [tg_repl z n r' _ _ (by simp at hn; omega) (ends_cons e45) (ends_cons e37)]
      simp
    · rename_i h
      have two : ∀ q, (repl r ++ 37 :: 62 :: z) = 37 :: 62 :: q → r = [] := repl_two r z e37
      have one : x = 37 → ∀ q, (repl r ++ 37 :: 62 :: z) = 62 :: q → False := by
        intro hx q hq
        subst hx
        cases r with
        | nil => simp [repl] at hq
        | cons d r =>
          have := repl_app_head (d :: r) (37 :: 62 :: z) (by simp)
          rw [hq] at this
          simp at this
          subst this
          simp [List.isPrefixOf] at h
      have pfx : ∀ (l : B), l.isPrefixOf (repl r ++ 37 :: 62 :: z) = true → ∃ q, (repl r ++ 37 :: 62 :: z) = l ++ q := fun l hl => by
        rw [List.isPrefixOf_iff_prefix] at hl
        obtain ⟨q, hq⟩ := hl
        exact ⟨q, hq.symm⟩
      rw [List.cons_append, tgN_cons, if_neg, if_neg, if_neg, tg_repl z n r _ _ (by simpa using hn) e45 e37]
      · simp
      · intro hp
        rw [List.isPrefixOf, Bool.and_eq_true, beq_iff_eq] at hp
        obtain ⟨q, hq⟩ := pfx _ hp.2
        exact one hp.1.symm q hq
      · intro hp
        rw [List.isPrefixOf, Bool.and_eq_true, beq_iff_eq] at hp
        obtain ⟨q, hq⟩ := pfx _ hp.2
        have := two q hq
        subst this
        rw [← hp.1] at h45
        simp [ends] at h45
      · intro hp
        rw [List.isPrefixOf, Bool.and_eq_true, beq_iff_eq] at hp
        obtain ⟨q, hq⟩ := pfx _ hp.2
        have := two q hq
        subst this
        rw [← hp.1] at h37
        simp [ends] at h37

/-- Can a part not be written behind a part? pv: that was a text. -/
def bad (pv : Bool) (k : Int) (t : B) : Bool :=
  decide (k < 0) || decide (k > 3) || (k == 0 && (t.isEmpty || pv)) || (k != 0 && (ends t 45 || ends t 37)) ||
    (k == 1 && (match t.head? with | none => true | some c => c == 61 || c == 35 || c == 37 || c == 45))
def front (k : Int) : B := if k == 1 then [60, 37] else if k == 2 then [60, 37, 61] else [60, 37, 35]
def piece (k : Int) (t : B) : B := if k == 0 then esc t else front k ++ repl t ++ [37, 62]
def fits : Bool → List Part → Bool
  | _, [] => true
  | pv, p :: l => !bad pv p.kind p.text && fits (p.kind == 0) l
def text : List Part → B
  | [] => []
  | p :: l => piece p.kind p.text ++ text l
def bare (p : Part) : Int × B := (p.kind, p.text)

theorem tag_start {pv : Bool} {k : Int} {t : B} (h : bad pv k t = false) (h0 : k ≠ 0) (z : B) : ∃ y, piece k t ++ z = 60 :: 37 :: y ∧ [37].isPrefixOf y = false ∧ opn y = (k, false, if k = 1 then 0 else 1) ∧ y.drop (if k = 1 then 0 else 1) = repl t ++ 37 :: 62 :: z := by
  simp only [bad, Bool.or_eq_false_iff, decide_eq_false_iff_not] at h
  obtain ⟨⟨⟨⟨h1, h2⟩, _⟩, _⟩, h5⟩ := h
  have hk : k = 1 ∨ k = 2 ∨ k = 3 := by omega
  have hp : piece k t = front k ++ repl t ++ [37, 62] := by unfold piece; rw [if_neg (by simpa using h0)]
  rw [hp]
  rcases hk with rfl | rfl | rfl
  · refine ⟨repl t ++ 37 :: 62 :: z, by simp [front], ?_, ?_, by simp⟩
    · cases t with
      | nil => simp at h5
      | cons c r =>
        have := repl_app_head (c :: r) (37 :: 62 :: z) (by simp)
        simp at h5
        cases he : repl (c :: r) ++ 37 :: 62 :: z with
        | nil => rfl
        | cons x y =>
          rw [he] at this
          simp at this
          subst this
          simp [List.isPrefixOf]
          exact fun e => h5.1.2 e.symm
    · cases t with
      | nil => simp at h5
      | cons c r =>
        unfold opn
        rw [repl_app_head (c :: r) (37 :: 62 :: z) (by simp)]
        simp at h5
        simp [h5]
  · exact ⟨61 :: (repl t ++ 37 :: 62 :: z), by simp [front], by simp [List.isPrefixOf], by simp [opn], by simp⟩
  · exact ⟨35 :: (repl t ++ 37 :: 62 :: z), by simp [front], by simp [List.isPrefixOf], by simp [opn], by simp⟩
theorem fits_tag : ∀ {l : List Part}, fits true l = true → tagAt (text l)
  | [], _ => .inl rfl
  | p :: l, h => by
    simp only [fits, Bool.and_eq_true, Bool.not_eq_true'] at h
    have h0 : p.kind ≠ 0 := fun e => by
      have := h.1
      simp [bad, e] at this
    obtain ⟨y, h1, h2, _⟩ := tag_start h.1 h0 (text l)
    exact .inr ⟨y, h1, h2⟩
theorem rd_text : ∀ (l : List Part) (pv : Bool), fits pv l = true → ∀ (pre t fp : B) (out : List Part), (pv = false → t = []) → ∃ ps, rdN false pre (text l) t fp out = .ok (close t fp out ++ ps) ∧ ps.map bare = l.map bare
  | [], _, _, pre, t, fp, out, _ => ⟨[], by simp [text, rdN_nil], rfl⟩
  | p :: l, pv, h, pre, t, fp, out, ht => by
    simp only [fits, Bool.and_eq_true, Bool.not_eq_true'] at h
    obtain ⟨hb, hf⟩ := h
    by_cases h0 : p.kind = 0
    · have hpv : pv = false := by
        simp [bad, h0] at hb
        exact hb.2
      have hne : p.text ≠ [] := by
        simp [bad, h0] at hb
        simpa using hb.1
      have := ht hpv
      subst this
      have hpc : piece p.kind p.text = esc p.text := by simp [piece, h0]
      simp only [text, hpc]
      have hk : (p.kind == 0) = true := by simp [h0]
      rw [hk] at hf
      rw [rd_esc_app _ (fits_tag hf) _ p.text _ _ _ _ (Nat.le_refl _)]
      obtain ⟨ps, h1, h2⟩ := rd_text l true hf (pre ++ esc p.text) ([] ++ p.text) (if p.text.isEmpty then fp else fpOf [] fp pre) out (fun h => by cases h)
      refine ⟨⟨0, ln (if p.text.isEmpty then fp else fpOf [] fp pre), p.text⟩ :: ps, ?_, by simp [h2, bare, h0]⟩
      rw [h1]
      have hie : p.text.isEmpty = false := by cases hp : p.text <;> simp_all
      simp [close, hie]
    · obtain ⟨y, h1, h2, h3, h4⟩ := tag_start hb h0 (text l)
      have hk : (p.kind == 0) = false := by simpa using h0
      rw [hk] at hf
      have he : ends p.text 45 = false ∧ ends p.text 37 = false := by
        simp [bad, h0] at hb
        exact hb.1.2
      simp only [text]
      rw [h1, rdN_cons]
      simp only [Bool.false_and, Bool.false_eq_true, if_false]
      rw [if_neg (by rw [List.isPrefixOf, List.isPrefixOf, h2]; simp), if_pos (by simp [List.isPrefixOf])]
      simp only [List.drop_succ_cons, List.drop_zero, h3]
      have hd : List.drop (2 + if p.kind = 1 then 0 else 1) (60 :: 37 :: y) = repl p.text ++ 37 :: 62 :: text l := by
        rw [← h4, Nat.add_comm]
        rfl
      rw [hd, tg_repl _ _ p.text _ _ (Nat.le_refl _) he.1 he.2]
      simp only [Bool.false_eq_true, if_false, List.nil_append]
      obtain ⟨ps, h5, h6⟩ := rd_text l false hf (pre ++ List.take (2 + if p.kind = 1 then 0 else 1) (60 :: 37 :: y) ++ repl p.text ++ [37, 62]) [] fp (close t fp out ++ [⟨p.kind, ln pre, p.text⟩]) (fun _ => rfl)
      refine ⟨⟨p.kind, ln pre, p.text⟩ :: ps, ?_, by simp [h6, bare]⟩
      rw [h5]
      simp [close]
theorem esc_len : ∀ (n : Nat) (s : B), s.length ≤ n → (esc s).length ≤ 2 * s.length
  | _, [], _ => by simp [esc]
  | 0, _ :: _, h => by simp at h
  | n + 1, c :: r, h => by
    unfold esc
    split
    · rename_i hp
      cases r with
      | nil => simp [List.isPrefixOf] at hp
      | cons d r =>
        have := esc_len n r (by simp at h; omega)
        simp; omega
    · have := esc_len n r (by simpa using h)
      simp; omega
theorem repl_len : ∀ (n : Nat) (s : B), s.length ≤ n → (repl s).length ≤ 2 * s.length
  | _, [], _ => by simp [repl]
  | 0, _ :: _, h => by simp at h
  | n + 1, c :: r, h => by
    unfold repl
    split
    · rename_i hp
      cases r with
      | nil => simp [List.isPrefixOf] at hp
      | cons d r =>
        have := repl_len n r (by simp at h; omega)
        simp; omega
    · have := repl_len n r (by simpa using h)
      simp; omega
end Go.Erb
