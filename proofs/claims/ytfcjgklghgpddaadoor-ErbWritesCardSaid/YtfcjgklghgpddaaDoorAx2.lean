/-
  AX, second text: what an abstract state says of a real one; operations that only read.
-/
import Derived.Test.YtfcjgklghgpddaaDoorAx1
import Derived.Laws.Rows
import Derived.Laws.CopyRow
import Derived.Laws.Cells
import Derived.Laws.Append
import Derived.Laws.Entries
import Derived.Laws.StructEq
import Derived.Orders
import GoSem.ClaimData
namespace Go.AX

/-- Where an entry lies: its block; if it is a row, its capacity. -/
structure Loc where
  b : Nat
  cap : Nat

def CV.rel (ρ : List Loc) : CV → Value → Prop
  | .any, _ => True
  | .v x, y => y = x
  | .lp i off, y => ∃ l, ρ[i]? = some l ∧ y = .pointer (some ⟨l.b, off, none⟩)
  | .sl i n, y => ∃ l, ρ[i]? = some l ∧ y = .slice (some ⟨l.b, 0, none⟩) n l.cap
def RelL (ρ : List Loc) : List CV → List Value → Prop
  | [], [] => True
  | c :: cs, x :: xs => c.rel ρ x ∧ RelL ρ cs xs
  | _, _ => False
def AV.rel (ρ : List Loc) : AV → Value → Prop
  | .c cv, y => cv.rel ρ y
  | .agg cs, y => ∃ xs : List Value, y = .agg xs.toArray ∧ RelL ρ cs xs
def RelS (ρ : List Loc) : List AV → List Value → Prop
  | [], [] => True
  | c :: cs, x :: xs => c.rel ρ x ∧ RelS ρ cs xs
  | _, _ => False

/-- F holds, and hangs on the blocks of S alone. -/
def Imm (S : Nat → Prop) (w : World) (F : World → Prop) : Prop := F w ∧ ∀ w' : World, (∀ b, S b → w'.heap[b]? = w.heap[b]?) → F w'

def Ent.own : Ent → Bool
  | .blk .. | .row .. => true
  | _ => false

def EntOk (ρ : List Loc) (S : Nat → Prop) (w : World) (i : Nat) : Ent → Prop
  | .blk T cs => ∃ l arr, ρ[i]? = some l ∧ w.heap[l.b]? = some (.cells arr T (0, 0)) ∧ RelL ρ cs arr.toList
  | .row T sz n cs => ∃ l arr, ρ[i]? = some l ∧ w.heap[l.b]? = some (.cells arr T (0, 0)) ∧ cs.length = n * sz ∧ n ≤ l.cap ∧ l.cap ≤ maxLen ∧ arr.size = l.cap * sz ∧ RelL ρ cs (arr.toList.take (n * sz))
  | .fact F => Imm S w F
  | .fz T sz n xs b cap => ρ[i]? = some ⟨b, cap⟩ ∧ Imm S w (RowF T sz n xs b cap)
  | .app T sz xs a n cap => (a = none ∧ n = 0 ∧ cap = 0 ∧ xs = []) ∨ ∃ b, a = some ⟨b, 0, none⟩ ∧ RowF T sz n xs b cap w
  | .mp b es c => w.heap[b]? = some (.map es c)
  | .dead => True

def Ent.isApp : Ent → Bool
  | .app .. => true
  | .mp .. => true
  | _ => false
/-- The block of an entry that may be written. -/
def entB (ρ : List Loc) (i : Nat) : Ent → Option Nat
  | .blk .. | .row .. => (ρ[i]?).map Loc.b
  | .app _ _ _ a _ _ => a.map Addr.block
  | .mp b _ _ => some b
  | _ => none
theorem entB_own {ρ : List Loc} {i : Nat} {e : Ent} {l : Loc} (ho : e.own = true) (hl : ρ[i]? = some l) : entB ρ i e = some l.b := by
  cases e <;> first | (cases ho; done) | (show (ρ[i]?).map Loc.b = _; rw [hl]; rfl)
theorem entB_le {ρ : List Loc} {i b : Nat} {e : Ent} {l : Loc} (ho : e.isApp = false) (hl : ρ[i]? = some l) (hb : entB ρ i e = some b) : b = l.b := by
  cases e with
  | blk T cs => rw [entB_own rfl hl] at hb; exact (Option.some.inj hb).symm
  | row T sz n cs => rw [entB_own rfl hl] at hb; exact (Option.some.inj hb).symm
  | app => cases ho
  | mp => cases ho
  | fact F => cases hb
  | fz => cases hb
  | dead => cases hb
/-- Block b is that of an entry that may be written. -/
def mb (ρ : List Loc) (H : List Ent) (b : Nat) : Prop := ∃ (i : Nat) (e : Ent), H[i]? = some e ∧ entB ρ i e = some b

structure Sat (ρ : List Loc) (S : Nat → Prop) (H : List Ent) (w : World) : Prop where
  len : ρ.length = H.length
  ent : ∀ i e, H[i]? = some e → EntOk ρ S w i e
  inj : ∀ (i j : Nat) (e f : Ent) (b : Nat), H[i]? = some e → H[j]? = some f → entB ρ i e = some b → entB ρ j f = some b → i = j
  out : ∀ b, mb ρ H b → ¬ S b
  low : ∀ b, S b → b < w.heap.size

structure Ev (ρ : List Loc) (S : Nat → Prop) (H : List Ent) (w : World) (ρ' : List Loc) (S' : Nat → Prop) (H' : List Ent) (w' : World) : Prop where
  pre : ∃ t, ρ' = ρ ++ t
  os : w'.os = w.os
  tape : w'.tape = w.tape
  output : w'.output = w.output
  size : w.heap.size ≤ w'.heap.size
  keep : ∀ b, b < w.heap.size → ¬ mb ρ H b → w'.heap[b]? = w.heap[b]?
  imm : ∀ b, S' b → S b ∨ mb ρ H b ∨ w.heap.size ≤ b
  own : ∀ b, mb ρ' H' b → mb ρ H b ∨ w.heap.size ≤ b

theorem Ev.refl (ρ : List Loc) (S : Nat → Prop) (H : List Ent) (w : World) : Ev ρ S H w ρ S H w :=
  ⟨⟨[], by simp⟩, rfl, rfl, rfl, Nat.le_refl _, fun _ _ _ => rfl, fun _ h => .inl h, fun _ h => .inl h⟩

theorem Ev.trans {ρ ρ1 ρ2 : List Loc} {S S1 S2 : Nat → Prop} {H H1 H2 : List Ent} {w w1 w2 : World}
    (a : Ev ρ S H w ρ1 S1 H1 w1) (b : Ev ρ1 S1 H1 w1 ρ2 S2 H2 w2) : Ev ρ S H w ρ2 S2 H2 w2 := by
  refine ⟨?_, b.os.trans a.os, b.tape.trans a.tape, b.output.trans a.output, Nat.le_trans a.size b.size, ?_, ?_, ?_⟩
  · obtain ⟨t, ht⟩ := a.pre
    obtain ⟨u, hu⟩ := b.pre
    exact ⟨t ++ u, by rw [hu, ht, List.append_assoc]⟩
  · intro k hk hn
    rw [b.keep k (Nat.lt_of_lt_of_le hk a.size) (fun hm => ?_), a.keep k hk hn]
    rcases a.own k hm with h | h
    · exact hn h
    · omega
  · intro k hk
    rcases b.imm k hk with h | h | h
    · exact a.imm k h
    · rcases a.own k h with h | h
      · exact .inr (.inl h)
      · exact .inr (.inr h)
    · exact .inr (.inr (Nat.le_trans a.size h))
  · intro k hk
    rcases b.own k hk with h | h
    · exact a.own k h
    · exact .inr (Nat.le_trans a.size h)

/-! ### Relations grow with the places -/
theorem get_pre {ρ : List Loc} {i : Nat} {l : Loc} (t : List Loc) (h : ρ[i]? = some l) : (ρ ++ t)[i]? = some l := by
  rw [List.getElem?_append_left ((List.getElem?_eq_some_iff.1 h).1)]; exact h
theorem CV.rel_pre {ρ : List Loc} (t : List Loc) {c : CV} {x : Value} (h : c.rel ρ x) : c.rel (ρ ++ t) x := by
  cases c with
  | any => trivial
  | v y => exact h
  | lp i off => obtain ⟨l, hl, hx⟩ := h; exact ⟨l, get_pre t hl, hx⟩
  | sl i n => obtain ⟨l, hl, hx⟩ := h; exact ⟨l, get_pre t hl, hx⟩
theorem RelL_pre {ρ : List Loc} (t : List Loc) : ∀ {cs : List CV} {xs : List Value}, RelL ρ cs xs → RelL (ρ ++ t) cs xs
  | [], [], _ => trivial
  | _ :: _, _ :: _, h => ⟨CV.rel_pre t h.1, RelL_pre t h.2⟩
  | [], _ :: _, h => h.elim
  | _ :: _, [], h => h.elim
theorem AV.rel_pre {ρ : List Loc} (t : List Loc) {a : AV} {x : Value} (h : a.rel ρ x) : a.rel (ρ ++ t) x := by
  cases a with
  | c c => exact CV.rel_pre (c := c) t h
  | agg cs => obtain ⟨xs, hx, hr⟩ := h; exact ⟨xs, hx, RelL_pre t hr⟩
theorem RelS_pre {ρ : List Loc} (t : List Loc) : ∀ {cs : List AV} {xs : List Value}, RelS ρ cs xs → RelS (ρ ++ t) cs xs
  | [], [], _ => trivial
  | _ :: _, _ :: _, h => ⟨AV.rel_pre t h.1, RelS_pre t h.2⟩
  | [], _ :: _, h => h.elim
  | _ :: _, [], h => h.elim

/-! ### Lists -/
theorem RelL_len {ρ : List Loc} : ∀ {cs : List CV} {xs : List Value}, RelL ρ cs xs → cs.length = xs.length
  | [], [], _ => rfl
  | _ :: _, _ :: _, h => by simp [RelL_len h.2]
  | [], _ :: _, h => h.elim
  | _ :: _, [], h => h.elim
theorem RelL_get {ρ : List Loc} : ∀ {cs : List CV} {xs : List Value} {i : Nat} {c : CV}, RelL ρ cs xs → cs[i]? = some c → ∃ x, xs[i]? = some x ∧ c.rel ρ x
  | [], [], _, _, _, h => by simp at h
  | c :: _, x :: _, 0, d, h, e => by
    simp at e; subst e; exact ⟨x, by simp, h.1⟩
  | _ :: cs, _ :: xs, i + 1, d, h, e => by
    simp only [List.getElem?_cons_succ] at e ⊢
    exact RelL_get h.2 e
  | [], _ :: _, _, _, h, _ => h.elim
  | _ :: _, [], _, _, h, _ => h.elim
theorem RelL_drop {ρ : List Loc} : ∀ {cs : List CV} {xs : List Value} (n : Nat), RelL ρ cs xs → RelL ρ (cs.drop n) (xs.drop n)
  | _, _, 0, h => by simpa using h
  | [], [], _ + 1, _ => by simp [RelL]
  | _ :: _, _ :: _, n + 1, h => by simpa using RelL_drop n h.2
  | [], _ :: _, _, h => h.elim
  | _ :: _, [], _, h => h.elim
theorem RelL_take {ρ : List Loc} : ∀ {cs : List CV} {xs : List Value} (n : Nat), RelL ρ cs xs → RelL ρ (cs.take n) (xs.take n)
  | _, _, 0, _ => by simp [RelL]
  | [], [], _ + 1, _ => by simp [RelL]
  | _ :: _, _ :: _, n + 1, h => by simp only [List.take_succ_cons]; exact ⟨h.1, RelL_take n h.2⟩
  | [], _ :: _, _, h => h.elim
  | _ :: _, [], _, h => h.elim
theorem RelL_append {ρ : List Loc} : ∀ {cs ds : List CV} {xs ys : List Value}, RelL ρ cs xs → RelL ρ ds ys → RelL ρ (cs ++ ds) (xs ++ ys)
  | [], _, [], _, _, h => by simpa using h
  | _ :: _, _, _ :: _, _, h, k => ⟨h.1, RelL_append h.2 k⟩
  | [], _, _ :: _, _, h, _ => h.elim
  | _ :: _, _, [], _, h, _ => h.elim
theorem vs_eq : ∀ xs : List Value, vs xs = xs.map CV.v
  | [] => rfl
  | x :: xs => by simp [vs, vs_eq xs]
theorem RelL_vs (ρ : List Loc) : ∀ xs : List Value, RelL ρ (vs xs) xs
  | [] => trivial
  | _ :: xs => ⟨rfl, RelL_vs ρ xs⟩
theorem plains_rel {ρ : List Loc} : ∀ {cs : List CV} {xs us : List Value}, plains cs = some us → RelL ρ cs xs → xs = us
  | [], [], us, h, _ => by simp [plains] at h; exact h.symm
  | .v y :: cs, x :: xs, us, h, r => by
    simp only [plains] at h
    split at h
    · rename_i l hl
      cases h
      have h2 := plains_rel hl r.2
      have h1 : x = y := r.1
      rw [h1, h2]
    · cases h
  | .any :: _, _ :: _, _, h, _ => by simp [plains] at h
  | .lp .. :: _, _ :: _, _, h, _ => by simp [plains] at h
  | .sl .. :: _, _ :: _, _, h, _ => by simp [plains] at h
  | [], _ :: _, _, _, h => h.elim
  | _ :: _, [], _, _, h => h.elim
theorem mkAgg_rel {ρ : List Loc} {cs : List CV} {xs : List Value} (h : RelL ρ cs xs) : (mkAgg cs).rel ρ (.agg xs.toArray) := by
  unfold mkAgg
  split
  · rename_i us hu
    have := plains_rel hu h
    subst this
    exact rfl
  · exact ⟨xs, rfl, h⟩

theorem nth_rel {ρ : List Loc} : ∀ {s : List AV} {xs : List Value} (t : Nat), RelS ρ s xs → (nth s t).rel ρ (xs.getD t undef)
  | [], [], _, _ => trivial
  | _ :: _, _ :: _, 0, h => h.1
  | _ :: s, _ :: xs, t + 1, h => by
    have := nth_rel t h.2
    simpa [nth] using this
  | [], _ :: _, _, h => h.elim
  | _ :: _, [], _, h => h.elim
theorem opv_rel {ρ : List Loc} {s : List AV} {a : Act} (h : RelS ρ s a.tmps.toList) (x : Operand) : (opv s x).rel ρ (a.eval x) := by
  cases x with
  | tmp t => have := nth_rel t h; simpa [opv, Act.eval] using this
  | const v => rfl
  | global g => rfl
  | func f => rfl
theorem nthE_eq : ∀ (H : List Ent) (i : Nat), nthE H i = H[i]?
  | [], _ => by simp [nthE]
  | _ :: _, 0 => by simp [nthE]
  | _ :: H, i + 1 => by simp [nthE, nthE_eq H i]
theorem nthC_eq : ∀ (H : List CV) (i : Nat), nthC H i = H[i]?
  | [], _ => by simp [nthC]
  | _ :: _, 0 => by simp [nthC]
  | _ :: H, i + 1 => by simp [nthC, nthC_eq H i]
theorem takeC_eq : ∀ (off n : Nat) (cs l : List CV), takeC off n cs = some l → l = (cs.drop off).take n ∧ l.length = n
  | 0, 0, cs, l, h => by simp [takeC] at h; subst h; simp
  | 0, n + 1, x :: xs, l, h => by
    simp only [takeC] at h
    split at h
    · rename_i l' hl
      cases h
      have := takeC_eq 0 n xs l' hl
      simp at this ⊢
      exact this
    · cases h
  | 0, _ + 1, [], _, h => by simp [takeC] at h
  | off + 1, n, x :: xs, l, h => by
    simp only [takeC] at h
    have := takeC_eq off n xs l h
    simpa using this
  | _ + 1, _, [], _, h => by simp [takeC] at h

theorem forceV_eq (v : Value) (K : Value → Prop) : forceV v K = K v := by cases v <;> rfl
theorem forceN_eq (n : Nat) (K : Nat → Prop) : forceN n K = K n := by cases n <;> rfl
theorem forceC_eq (v : CV) (K : CV → Prop) : forceC v K = K v := by cases v <;> rfl
theorem forceA_eq (v : AV) (K : AV → Prop) : forceA v K = K v := by cases v <;> simp [forceA, forceC_eq]
theorem brd_true {b : Bool} {A B : Prop} (h : brd b A B) (hb : b = true) : A := by subst hb; exact h
theorem brd_false {b : Bool} {A B : Prop} (h : brd b A B) (hb : b = false) : B := by subst hb; exact h
/-- Both ways. -/
theorem brd_intro {b : Bool} {A B : Prop} (hA : b = true → A) (hB : b = false → B) : brd b A B := by
  cases b
  · exact hB rfl
  · exact hA rfl

theorem add_lit0 (b n : Nat) : (⟨b, 0, none⟩ : Addr).add n = ⟨b, n, none⟩ := by
  unfold Addr.add; split <;> simp_all
theorem RowF.sl {T : TypeId} {sz n : Nat} {xs : List Value} {b cap : Nat} {w : World} (h : RowF T sz n xs b cap w) : SlAt (some ⟨b, 0, none⟩) (n * sz) xs w := by
  obtain ⟨arr, hb, h1, h2, h3, h4, htk⟩ := h
  refine ⟨h1, fun _ => rfl, fun j hj => ?_⟩
  show w.cell? ((⟨b, 0, none⟩ : Addr).add j) = _
  rw [add_lit0, cell_of_row w b j arr T (0, 0) hb, ← htk, List.getElem?_take, if_pos hj]
  simp
theorem SlAt.nil {a : Option Addr} {w : World} : SlAt a 0 [] w := ⟨rfl, fun h => absurd h (Nat.lt_irrefl 0), fun j h => absurd h (Nat.not_lt_zero j)⟩
theorem appSl {ρ : List Loc} {S : Nat → Prop} {w : World} {i : Nat} {T : TypeId} {sz : Nat} {xs : List Value} {a : Option Addr} {n cap : Nat} (h : EntOk ρ S w i (.app T sz xs a n cap)) : SlAt a (n * sz) xs w := by
  rcases h with ⟨rfl, rfl, rfl, rfl⟩ | ⟨b, rfl, h⟩
  · rw [Nat.zero_mul]; exact SlAt.nil
  · exact h.sl

theorem Facts_of {ρ : List Loc} {S : Nat → Prop} {w : World} : ∀ {H : List Ent}, (∀ e ∈ H, match e with | .fact F => F w | .fz T sz n xs b cap => RowF T sz n xs b cap w | .app _ sz xs a n _ => SlAt a (n * sz) xs w | .mp b es c => w.heap[b]? = some (.map es c) | _ => True) → Facts H w
  | [], _ => trivial
  | .fact F :: es, h => ⟨h (.fact F) (by simp), Facts_of (ρ := ρ) (S := S) fun e he => h e (by simp [he])⟩
  | .blk .. :: es, h => Facts_of (ρ := ρ) (S := S) (H := es) fun e he => h e (by simp [he])
  | .row .. :: es, h => Facts_of (ρ := ρ) (S := S) (H := es) fun e he => h e (by simp [he])
  | .fz T sz n xs b cap :: es, h => ⟨h (.fz T sz n xs b cap) (by simp), Facts_of (ρ := ρ) (S := S) fun e he => h e (by simp [he])⟩
  | .app T sz xs a n cap :: es, h => ⟨h (.app T sz xs a n cap) (by simp), Facts_of (ρ := ρ) (S := S) fun e he => h e (by simp [he])⟩
  | .mp b es c :: H, h => ⟨h (.mp b es c) (by simp), Facts_of (ρ := ρ) (S := S) fun e he => h e (by simp [he])⟩
  | .dead :: es, h => Facts_of (ρ := ρ) (S := S) (H := es) fun e he => h e (by simp [he])
theorem Sat.facts {ρ : List Loc} {S : Nat → Prop} {H : List Ent} {w : World} (h : Sat ρ S H w) : Facts H w := by
  refine Facts_of (ρ := ρ) (S := S) fun e he => ?_
  obtain ⟨i, hi⟩ := List.getElem?_of_mem he
  have := h.ent i e hi
  cases e with
  | fact F => exact this.1
  | fz T sz n xs b cap => exact this.2.1
  | app T sz xs a n cap => exact appSl this
  | _ => trivial

/-! ### The pure part -/
theorem pureRun_run (P : Program) {α : Type} : ∀ (s : Sem α) (x : α), pureRun P s = some x → ∀ w, s.run P w = .ok x w
  | .pure a, x, h, w => by simp [pureRun] at h; subst h; rfl
  | .program k, x, h, w => by simp only [pureRun] at h; exact pureRun_run P (k P) x h w
  | .mark _ k, x, h, w => by simp only [pureRun] at h; exact pureRun_run P k x h w
  | .load .., _, h, _ => by simp [pureRun] at h
  | .store .., _, h, _ => by simp [pureRun] at h
  | .new .., _, h, _ => by simp [pureRun] at h
  | .shape .., _, h, _ => by simp [pureRun] at h
  | .freeze .., _, h, _ => by simp [pureRun] at h
  | .frozen .., _, h, _ => by simp [pureRun] at h
  | .getObj .., _, h, _ => by simp [pureRun] at h
  | .setObj .., _, h, _ => by simp [pureRun] at h
  | .choose .., _, h, _ => by simp [pureRun] at h
  | .sys .., _, h, _ => by simp [pureRun] at h
  | .halt .., _, h, _ => by simp [pureRun] at h

theorem allPlain_eval {ρ : List Loc} {s : List AV} {a : Act} (h : RelS ρ s a.tmps.toList) : ∀ (l : List Operand), allPlain s l = true → ∀ x ∈ l, a.eval x = plainEv s x
  | [], _, x, hx => by cases hx
  | y :: l, hp, x, hx => by
    simp only [allPlain] at hp
    have hr := opv_rel h y
    have hy : ∀ z, opv s y = .c (.v z) → a.eval y = plainEv s y := fun z hz => by
      rw [hz] at hr
      unfold plainEv
      rw [hz]
      exact hr
    cases hx with
    | head =>
      revert hp
      cases ho : opv s y with
      | agg cs => simp
      | c c => cases c with
        | v z => intro _; exact hy z ho
        | _ => simp
    | tail _ hx =>
      refine allPlain_eval h l ?_ x hx
      revert hp
      cases opv s y with
      | agg cs => simp
      | c c => cases c <;> simp

/-- What a reading operation gives, in every world that the state speaks of. -/
def Reads (P : Program) (o : Oper) (s : List AV) (H : List Ent) (av : AV) : Prop :=
  ∀ (ρ : List Loc) (S : Nat → Prop) (w : World) (a : Act), Sat ρ S H w → RelS ρ s a.tmps.toList → ∃ v, (execOp a.eval o).run P w = .ok (.value v) w ∧ av.rel ρ v

theorem gen_sound {P : Program} {o : Oper} {s : List AV} {H : List Ent} {K : AV → Prop} (h : genK P o s K) : ∃ av, K av ∧ Reads P o s H av := by
  have hsel : ∀ cs b, o.op ≠ .select cs b := fun cs b e => by unfold genK at h; rw [e] at h; exact h
  have h' : (match allPlain s o.op.operands.toList with
    | true => match pureRun P (execOp (plainEv s) o) with
      | some (.value v) => forceV v fun v => K (.c (.v v))
      | _ => False
    | false => False) := by
    unfold genK at h
    split at h
    · exact h.elim
    · exact h
  clear h
  split at h'
  · rename_i hp
    split at h'
    · rename_i v hv
      rw [forceV_eq] at h'
      refine ⟨_, h', fun ρ S w a hs hr => ⟨v, ?_, rfl⟩⟩
      rw [execOp_congr o hsel (ρ' := plainEv s) fun x hx => allPlain_eval hr _ hp x (Array.mem_toList_iff.2 hx)]
      exact pureRun_run P _ _ hv w
    · exact h'.elim
  · exact h'.elim

def isAggD : TypeDesc → Bool
  | .struct _ | .array _ _ => true
  | _ => false
theorem run_isAgg {P : Program} {T : TypeId} {d : TypeDesc} (h : P.underlying T = some d) (w : World) :
    (isAgg T).run P w = .ok (isAggD d) w := by
  unfold isAgg
  rw [Sem.run_bind, run_underlying h w]
  cases d <;> rfl

/-- A load of one variable, or of several cells, out of a row. -/
theorem run_loadVar_at {P : Program} {T : TypeId} {w : World} {b off : Nat} {arr : Array Value} {E : TypeId} {fr : Nat × Nat}
    (hb : w.heap[b]? = some (.cells arr E fr)) :
    (shapeT P T = some none → ∀ x, arr.toList[off]? = some x → (loadVar T ⟨b, off, none⟩).run P w = .ok x w) ∧
    (∀ n, shapeT P T = some (some n) → ((arr.toList.drop off).take n).length = n → (loadVar T ⟨b, off, none⟩).run P w = .ok (.agg ((arr.toList.drop off).take n).toArray) w) := by
  constructor
  · intro hs x hx
    unfold shapeT at hs
    have key : ∀ d, P.underlying T = some d → isAggD d = false → (loadVar T ⟨b, off, none⟩).run P w = .ok x w := fun d hd hf => by
      unfold loadVar
      rw [Sem.run_bind, run_isAgg hd, hf]
      have hc : w.cell? ⟨b, off, none⟩ = some x := by rw [cell_of_row w b off arr E fr hb]; simpa using hx
      simp [hc]
    cases hd : P.underlying T with
    | none => rw [hd] at hs; simp at hs
    | some d =>
      rw [hd] at hs
      cases d <;> first
        | exact key _ hd rfl
        | (simp only at hs; split at hs <;> simp at hs)
  · intro n hs hl
    unfold shapeT at hs
    have key : ∀ d i, P.underlying T = some d → P.info? T = some i → i.size = n → isAggD d = true → (loadVar T ⟨b, off, none⟩).run P w = .ok (.agg ((arr.toList.drop off).take n).toArray) w := fun d i hd hi hn hf => by
      have hcells := run_loadCells_list (P := P) w ⟨b, off, none⟩ ((arr.toList.drop off).take n) (fun j v hv => by
        have hadd : (⟨b, off, none⟩ : Addr).add j = ⟨b, off + j, none⟩ := by unfold Addr.add; split <;> simp_all
        rw [hadd, cell_of_row w b (off + j) arr E fr hb]
        rw [List.getElem?_take] at hv
        split at hv
        · simpa [List.getElem?_drop] using hv
        · cases hv)
      rw [hl] at hcells
      unfold loadVar
      rw [Sem.run_bind, run_isAgg hd, hf]
      simp [sizeOf, typeInfo, hi, hn, hcells]
    cases hd : P.underlying T with
    | none => rw [hd] at hs; simp at hs
    | some d =>
      rw [hd] at hs
      cases d <;> first
        | (simp at hs; done)
        | (simp only at hs
           split at hs
           · rename_i i hi
             simp at hs
             exact key _ i hd hi hs rfl
           · cases hs)

theorem execOp_load {P : Program} {o : Oper} {ev : Operand → Value} {w : World} {T : TypeId} {x : Operand} {p : Addr} {y : Value} (ho : o.op = .load T x) (hx : ev x = .pointer (some p))
    (h : (loadVar T p).run P w = .ok y w) : (execOp ev o).run P w = .ok (.value y) w := by
  unfold execOp
  simp only [ho, hx, Instr.loadAt, Instr.sureAddr, Sem.run_bind, Sem.run_pure, Result.andThen_ok, h]

theorem vs_rel (ρ : List Loc) : ∀ xs : List Value, RelL ρ (vs xs) xs
  | [] => trivial
  | _ :: xs => ⟨rfl, vs_rel ρ xs⟩
theorem fz_row {ρ : List Loc} {S : Nat → Prop} {w : World} {i : Nat} {T : TypeId} {sz n : Nat} {xs : List Value} {b cap : Nat} (h : EntOk ρ S w i (.fz T sz n xs b cap)) :
    ∃ l arr, ρ[i]? = some l ∧ w.heap[l.b]? = some (.cells arr T (0, 0)) ∧ RelL ρ (vs xs) (arr.toList.take (n * sz)) := by
  obtain ⟨hl, ⟨arr, hb, _, _, _, _, htk⟩, _⟩ := h
  exact ⟨⟨b, cap⟩, arr, hl, hb, by rw [htk]; exact vs_rel ρ xs⟩

theorem loadL_sound {P : Program} {o : Oper} {s : List AV} {H : List Ent} {K : AV → Prop} {T : TypeId} {x : Operand} {i off : Nat} (ho : o.op = .load T x) (hx : opv s x = .c (.lp i off))
    (h : loadL P T (nthE H i) off K) : ∃ av, K av ∧ Reads P o s H av := by
  rw [nthE_eq] at h
  unfold loadL at h
  split at h
  · rename_i T' cs he
    split at h
    · rename_i hs
      split at h
      · rename_i c hc
        rw [forceC_eq] at h
        rw [nthC_eq] at hc
        refine ⟨_, h, fun ρ S w a hsat hr => ?_⟩
        obtain ⟨l, arr, hl, hb, hrel⟩ := hsat.ent i _ he
        have hxr := opv_rel hr x
        rw [hx] at hxr
        obtain ⟨l', hl', hxe⟩ := hxr
        have : l' = l := Option.some.inj (hl'.symm.trans hl)
        subst this
        obtain ⟨y, hy, hcy⟩ := RelL_get hrel hc
        exact ⟨y, execOp_load ho hxe ((run_loadVar_at hb).1 hs y hy), hcy⟩
      · exact h.elim
    · rename_i n hs
      split at h
      · rename_i l0 hc
        rw [forceA_eq] at h
        obtain ⟨hl0, hlen⟩ := takeC_eq _ _ _ _ hc
        refine ⟨_, h, fun ρ S w a hsat hr => ?_⟩
        obtain ⟨l, arr, hl, hb, hrel⟩ := hsat.ent i _ he
        have hxr := opv_rel hr x
        rw [hx] at hxr
        obtain ⟨l', hl', hxe⟩ := hxr
        have : l' = l := Option.some.inj (hl'.symm.trans hl)
        subst this
        have hr2 := RelL_take n (RelL_drop off hrel)
        rw [← hl0] at hr2
        have hlen2 : ((arr.toList.drop off).take n).length = n := by rw [← RelL_len hr2]; exact hlen
        exact ⟨_, execOp_load ho hxe ((run_loadVar_at hb).2 n hs hlen2), mkAgg_rel hr2⟩
      · exact h.elim
    · exact h.elim
  · rename_i T' sz n cs he
    split at h
    · rename_i hs
      obtain ⟨l0, hok, hlen, h⟩ := h
      match l0, hlen, h with
      | [c], _, h0 =>
        have h : forceC c fun c => K (.c c) := h0
        rw [forceC_eq] at h
        refine ⟨_, h, fun ρ S w a hsat hr => ?_⟩
        obtain ⟨l, arr, hl, hb, hcl, hnc, hcm, hsz, hrel⟩ := hsat.ent i _ he
        have hxr := opv_rel hr x
        rw [hx] at hxr
        obtain ⟨l', hl', hxe⟩ := hxr
        have : l' = l := Option.some.inj (hl'.symm.trans hl)
        subst this
        have hc : cs[off]? = some c := by
          have h1 : ((cs.drop off).take 1)[0]? = some c := by rw [hok]; rfl
          rw [List.getElem?_take] at h1
          simpa [List.getElem?_drop] using h1
        obtain ⟨y, hy, hcy⟩ := RelL_get hrel hc
        rw [List.getElem?_take] at hy
        split at hy
        · exact ⟨y, execOp_load ho hxe ((run_loadVar_at hb).1 hs y hy), hcy⟩
        · cases hy
    · rename_i m hs
      obtain ⟨l0, hok, hlen, h⟩ := h
      rw [forceA_eq] at h
      refine ⟨_, h, fun ρ S w a hsat hr => ?_⟩
      obtain ⟨l, arr, hl, hb, hcl, hnc, hcm, hsz, hrel⟩ := hsat.ent i _ he
      have hxr := opv_rel hr x
      rw [hx] at hxr
      obtain ⟨l', hl', hxe⟩ := hxr
      have : l' = l := Option.some.inj (hl'.symm.trans hl)
      subst this
      have hr2 := RelL_take m (RelL_drop off hrel)
      rw [hok] at hr2
      have hlen1 := RelL_len hr2
      have e : (((arr.toList.take (n * sz)).drop off).take m) = (arr.toList.drop off).take m := by
        apply List.ext_getElem?
        intro j
        have hlen3 : (((arr.toList.take (n * sz)).drop off).take m).length = m := by rw [← hlen1]; exact hlen
        by_cases hj : j < m
        · have hin : off + j < n * sz := by
            simp only [List.length_take, List.length_drop] at hlen3
            omega
          simp [List.getElem?_drop, hj, hin]
        · simp [List.getElem?_take, hj]
      rw [e] at hr2
      have hlen2 : ((arr.toList.drop off).take m).length = m := by rw [← RelL_len hr2]; exact hlen
      exact ⟨_, execOp_load ho hxe ((run_loadVar_at hb).2 m hs hlen2), mkAgg_rel hr2⟩
    · exact h.elim
  · rename_i T' sz n xs0 b0 cap0 he
    have hrow := fun (ρ : List Loc) (S : Nat → Prop) (w : World) (hsat : Sat ρ S H w) => fz_row (hsat.ent i _ he)
    generalize hcs : vs xs0 = cs at h hrow
    clear hcs
    split at h
    · rename_i hs
      obtain ⟨l0, hok, hlen, h⟩ := h
      match l0, hlen, h with
      | [c], _, h0 =>
        have h : forceC c fun c => K (.c c) := h0
        rw [forceC_eq] at h
        refine ⟨_, h, fun ρ S w a hsat hr => ?_⟩
        obtain ⟨l, arr, hl, hb, hrel⟩ := hrow ρ S w hsat
        have hxr := opv_rel hr x
        rw [hx] at hxr
        obtain ⟨l', hl', hxe⟩ := hxr
        have : l' = l := Option.some.inj (hl'.symm.trans hl)
        subst this
        have hc : cs[off]? = some c := by
          have h1 : ((cs.drop off).take 1)[0]? = some c := by rw [hok]; rfl
          rw [List.getElem?_take] at h1
          simpa [List.getElem?_drop] using h1
        obtain ⟨y, hy, hcy⟩ := RelL_get hrel hc
        rw [List.getElem?_take] at hy
        split at hy
        · exact ⟨y, execOp_load ho hxe ((run_loadVar_at hb).1 hs y hy), hcy⟩
        · cases hy
    · rename_i m hs
      obtain ⟨l0, hok, hlen, h⟩ := h
      rw [forceA_eq] at h
      refine ⟨_, h, fun ρ S w a hsat hr => ?_⟩
      obtain ⟨l, arr, hl, hb, hrel⟩ := hrow ρ S w hsat
      have hxr := opv_rel hr x
      rw [hx] at hxr
      obtain ⟨l', hl', hxe⟩ := hxr
      have : l' = l := Option.some.inj (hl'.symm.trans hl)
      subst this
      have hr2 := RelL_take m (RelL_drop off hrel)
      rw [hok] at hr2
      have hlen1 := RelL_len hr2
      have e : (((arr.toList.take (n * sz)).drop off).take m) = (arr.toList.drop off).take m := by
        apply List.ext_getElem?
        intro j
        have hlen3 : (((arr.toList.take (n * sz)).drop off).take m).length = m := by rw [← hlen1]; exact hlen
        by_cases hj : j < m
        · have hin : off + j < n * sz := by
            simp only [List.length_take, List.length_drop] at hlen3
            omega
          simp [List.getElem?_drop, hj, hin]
        · simp [List.getElem?_take, hj]
      rw [e] at hr2
      have hlen2 : ((arr.toList.drop off).take m).length = m := by rw [← RelL_len hr2]; exact hlen
      exact ⟨_, execOp_load ho hxe ((run_loadVar_at hb).2 m hs hlen2), mkAgg_rel hr2⟩
    · exact h.elim
  · exact h.elim
end Go.AX
