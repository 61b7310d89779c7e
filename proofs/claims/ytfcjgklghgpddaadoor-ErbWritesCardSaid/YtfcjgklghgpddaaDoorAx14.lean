/-
  AX, fourteenth text: calls over plain values and facts on memory that nobody writes; what a call made is handed on as such.
-/
import Derived.Test.YtfcjgklghgpddaaDoorAx12
import Derived.Below
namespace Go.AX
open Go.RowKit

theorem Imm.mono {S : Nat → Prop} {w : World} {F G : World → Prop} (h : Imm S w F) (hk : ∀ w, F w → G w) : Imm S w G := ⟨hk w h.1, fun w' hw => hk w' (h.2 w' hw)⟩
theorem Imm.grow {S S' : Nat → Prop} {w : World} {F : World → Prop} (h : Imm S w F) (hs : ∀ b, S b → S' b) : Imm S' w F := ⟨h.1, fun w' hw => h.2 w' fun b hb => hw b (hs b hb)⟩
theorem Imm.and {S : Nat → Prop} {w : World} {F G : World → Prop} (h : Imm S w F) (k : Imm S w G) : Imm S w fun w => F w ∧ G w := ⟨⟨h.1, k.1⟩, fun w' hw => ⟨h.2 w' hw, k.2 w' hw⟩⟩
theorem Imm.triv (S : Nat → Prop) (w : World) : Imm S w fun _ => True := ⟨trivial, fun _ _ => trivial⟩

theorem EntOk.grow {ρ : List Loc} {S S' : Nat → Prop} {w : World} {i : Nat} {e : Ent} (h : EntOk ρ S w i e) (hs : ∀ b, S b → S' b) : EntOk ρ S' w i e := by
  cases e with
  | fact F => exact Imm.grow h hs
  | fz => exact ⟨h.1, Imm.grow h.2 hs⟩
  | _ => exact h

theorem Facts_imm {ρ : List Loc} {S : Nat → Prop} {w : World} : ∀ {H : List Ent}, (∀ e ∈ H, ∃ i, EntOk ρ S w i e ∧ match e with | .app _ _ _ a _ _ => ∀ b, a.map Addr.block = some b → S b | .mp b _ _ => S b | _ => True) → Imm S w (Facts H)
  | [], _ => Imm.triv S w
  | .fact F :: es, h => by
    obtain ⟨i, hi, _⟩ := h (.fact F) (by simp)
    exact Imm.and hi (Facts_imm fun e he => h e (by simp [he]))
  | .fz T sz n xs b cap :: es, h => by
    obtain ⟨i, hi, _⟩ := h (.fz T sz n xs b cap) (by simp)
    exact Imm.and hi.2 (Facts_imm fun e he => h e (by simp [he]))
  | .blk .. :: es, h => Facts_imm (H := es) fun e he => h e (by simp [he])
  | .row .. :: es, h => Facts_imm (H := es) fun e he => h e (by simp [he])
  | .app T sz xs a n cap :: es, h => by
    obtain ⟨i, hi, hS⟩ := h (.app T sz xs a n cap) (by simp)
    have h1 : Imm S w (SlAt a (n * sz) xs) := ⟨appSl hi, fun w' hw => by
      rcases hi with ⟨rfl, rfl, rfl, rfl⟩ | ⟨b, rfl, hr⟩
      · rw [Nat.zero_mul]; exact SlAt.nil
      · exact (hr.move (hw b (hS b rfl))).sl⟩
    exact Imm.and h1 (Facts_imm fun e he => h e (by simp [he]))
  | .mp b es c :: H, h => by
    obtain ⟨i, hi, hS⟩ := h (.mp b es c) (by simp)
    have h1 : Imm S w (fun w => w.heap[b]? = some (.map es c)) := ⟨hi, fun w' hw => (hw b hS).trans hi⟩
    exact Imm.and h1 (Facts_imm fun e he => h e (by simp [he]))
  | .dead :: es, h => Facts_imm (H := es) fun e he => h e (by simp [he])
/-- The blocks of slices that still grow. -/
def appB (H : List Ent) (b : Nat) : Prop := (∃ T sz xs a n cap, Ent.app T sz xs a n cap ∈ H ∧ a.map Addr.block = some b) ∨ ∃ es c, Ent.mp b es c ∈ H
theorem appB_mb {ρ : List Loc} {H : List Ent} {b : Nat} (h : appB H b) : mb ρ H b := by
  rcases h with ⟨T, sz, xs, a, n, cap, hm, hb⟩ | ⟨es, c, hm⟩
  · obtain ⟨i, hi⟩ := List.getElem?_of_mem hm
    exact ⟨i, _, hi, hb⟩
  · obtain ⟨i, hi⟩ := List.getElem?_of_mem hm
    exact ⟨i, _, hi, rfl⟩
theorem Sat.imm {ρ : List Loc} {S : Nat → Prop} {H : List Ent} {w : World} (h : Sat ρ S H w) : Imm (fun b => S b ∨ appB H b) w (Facts H) :=
  Facts_imm (ρ := ρ) fun e he => by
    obtain ⟨i, hi⟩ := List.getElem?_of_mem he
    refine ⟨i, (h.ent i e hi).grow fun b hb => .inl hb, ?_⟩
    cases e with
    | app T sz xs a n cap => exact fun b hb => .inr (.inl ⟨T, sz, xs, a, n, cap, he, hb⟩)
    | mp b es c => exact .inr (.inr ⟨es, c, he⟩)
    | _ => trivial
/-- What is known of memory that nobody writes, slices that still grow aside. -/
def FactsP : List Ent → World → Prop
  | [], _ => True
  | .fz T sz n xs b cap :: es, w => RowF T sz n xs b cap w ∧ FactsP es w
  | .fact F :: es, w => F w ∧ FactsP es w
  | _ :: es, w => FactsP es w
theorem FactsP_imm {ρ : List Loc} {S : Nat → Prop} {w : World} : ∀ {H : List Ent}, (∀ e ∈ H, ∃ i, EntOk ρ S w i e) → Imm S w (FactsP H)
  | [], _ => Imm.triv S w
  | .fact F :: es, h => by
    obtain ⟨i, hi⟩ := h (.fact F) (by simp)
    exact Imm.and hi (FactsP_imm fun e he => h e (by simp [he]))
  | .fz T sz n xs b cap :: es, h => by
    obtain ⟨i, hi⟩ := h (.fz T sz n xs b cap) (by simp)
    exact Imm.and hi.2 (FactsP_imm fun e he => h e (by simp [he]))
  | .blk .. :: es, h => FactsP_imm (H := es) fun e he => h e (by simp [he])
  | .row .. :: es, h => FactsP_imm (H := es) fun e he => h e (by simp [he])
  | .app .. :: es, h => FactsP_imm (H := es) fun e he => h e (by simp [he])
  | .mp .. :: es, h => FactsP_imm (H := es) fun e he => h e (by simp [he])
  | .dead :: es, h => FactsP_imm (H := es) fun e he => h e (by simp [he])
theorem Sat.immP {ρ : List Loc} {S : Nat → Prop} {H : List Ent} {w : World} (h : Sat ρ S H w) : Imm S w (FactsP H) :=
  FactsP_imm (ρ := ρ) fun e he => by
    obtain ⟨i, hi⟩ := List.getElem?_of_mem he
    exact ⟨i, h.ent i e hi⟩

/-- A call over plain values, under a fact on memory that nobody writes: a value, and a fact on it. -/
structure SpecF (P : Program) (f : FuncId) (xs : List Value) (F : World → Prop) (R : Value → (World → Prop) → Prop) : Prop where
  ok : CallOk P f
  run : ∀ (S : Nat → Prop) (w : World), Imm S w F → (∀ b, S b → b < w.heap.size) → Calls P f xs.toArray w fun e w' =>
    ∃ v G S', e = .returned v ∧ R v G ∧ Imm S' w' G ∧ (∀ b, S' b → S b ∨ w.heap.size ≤ b) ∧ (∀ b, S' b → b < w'.heap.size) ∧ Below w.heap.size w w'

theorem below_ev {ρ : List Loc} {S S' : Nat → Prop} {H H' : List Ent} {w w' : World} (t : List Loc) (h : Below w.heap.size w w') (hS : ∀ b, S' b → S b ∨ w.heap.size ≤ b) (hm : ∀ b, mb (ρ ++ t) H' b → mb ρ H b) : Ev ρ S H w (ρ ++ t) S' H' w' :=
  ⟨⟨t, rfl⟩, h.os, h.tape, h.output, h.size, fun b hb _ => h.block b hb, fun b hb => (hS b hb).elim .inl fun h => .inr (.inr h), fun b hb => .inl (hm b hb)⟩

theorem Sat.below {ρ : List Loc} {S : Nat → Prop} {H : List Ent} {w w' : World} (hs : Sat ρ S H w) (h : Below w.heap.size w w') : Sat ρ S H w' :=
  ⟨hs.len, fun i e he => by
      have := (hs.ent i e he).move (w' := w') [] (fun b hb => h.block _ (hs.blk_lt he hb)) fun b hb => h.block b (hs.low b hb)
      simpa using this,
    hs.inj, hs.out, fun b hb => Nat.lt_of_lt_of_le (hs.low b hb) h.size⟩

/-- The fact that a call gave is kept. -/
theorem Sat.addFact {ρ : List Loc} {S S' : Nat → Prop} {H : List Ent} {w w' : World} {G : World → Prop} (hs : Sat ρ S H w) (h : Below w.heap.size w w') (hG : Imm S' w' G) (hS : ∀ b, S' b → S b ∨ w.heap.size ≤ b) (hl : ∀ b, S' b → b < w'.heap.size) :
    Sat (ρ ++ [⟨0, 0⟩]) (fun b => S b ∨ S' b) (H ++ [.fact G]) w' ∧ ∀ b, mb (ρ ++ [⟨0, 0⟩]) (H ++ [.fact G]) b → mb ρ H b := by
  have h1 := hs.below h
  have hcase : ∀ (i : Nat) (e : Ent), (H ++ [Ent.fact G])[i]? = some e → (i < H.length ∧ H[i]? = some e) ∨ e = .fact G := fun i e he => by
    by_cases hi : i < H.length
    · rw [List.getElem?_append_left hi] at he; exact .inl ⟨hi, he⟩
    · rw [List.getElem?_append_right (by omega)] at he
      have : i - H.length < 1 := by have := (List.getElem?_eq_some_iff.1 he).1; simpa using this
      have h0 : i - H.length = 0 := by omega
      rw [h0] at he
      simp at he
      exact .inr he.symm
  have hb2 : ∀ (i : Nat) (e : Ent) (b : Nat), (H ++ [Ent.fact G])[i]? = some e → entB (ρ ++ [⟨0, 0⟩]) i e = some b → H[i]? = some e ∧ entB ρ i e = some b := fun i e b he hb => by
    rcases hcase i e he with ⟨hi, he'⟩ | rfl
    · rw [entB_pre _ (by rw [hs.len]; exact hi)] at hb
      exact ⟨he', hb⟩
    · cases hb
  have hmb : ∀ b, mb (ρ ++ [⟨0, 0⟩]) (H ++ [.fact G]) b → mb ρ H b := by
    rintro b ⟨i, e, he, hb⟩
    exact ⟨i, e, hb2 i e b he hb⟩
  refine ⟨⟨by simp [hs.len], fun i e he => ?_, fun i j e f b he hf heb hfb => ?_, fun b hb hn => ?_, fun b hb => ?_⟩, hmb⟩
  · rcases hcase i e he with ⟨hi, he'⟩ | rfl
    · have := (hs.ent i e he').move (w' := w') [⟨0, 0⟩] (fun b hb => h.block _ (hs.blk_lt he' hb)) fun b hb => h.block b (hs.low b hb)
      exact this.grow fun b hb => .inl hb
    · exact Imm.grow hG fun b hb => .inr hb
  · have h1 := hb2 i e b he heb
    have h2 := hb2 j f b hf hfb
    exact hs.inj i j e f b h1.1 h2.1 h1.2 h2.2
  · obtain ⟨i, e, he, heb⟩ := hmb b hb
    rcases hn with hn | hn
    · exact hs.out _ ⟨i, e, he, heb⟩ hn
    · rcases hS _ hn with h2 | h2
      · exact hs.out _ ⟨i, e, he, heb⟩ h2
      · have := hs.blk_lt he heb; omega
  · rcases hb with hb | hb
    · exact h1.low b hb
    · exact hl b hb

theorem SpecF.call {P : Program} {f : FuncId} {xs : List Value} {F : World → Prop} {R : Value → (World → Prop) → Prop} {H : List Ent} {K : Out → List Ent → Prop} (h : SpecF P f xs F R) (hF : ∀ w, FactsP H w → F w)
    (hk : ∀ v G, R v G → snocK H (.fact G) 0 fun H' _ => K (.val (.c (.v v))) H') : SpecH P f (pvs xs) H K := by
  simp only [snocK_eq] at hk
  refine ⟨h.ok, fun ρ S w vs hs hr => ?_⟩
  obtain rfl := RelS_pvs hr
  refine (h.run S w (hs.immP.mono hF) hs.low).mono fun e w' ⟨v, G, S', he, hR, hG, hS, hlow, bel⟩ => ?_
  have hsat := hs.addFact bel hG hS hlow
  exact ⟨_, _, _, .val (.c (.v v)), hsat.1, below_ev [⟨0, 0⟩] bel (fun b hb => hb.elim .inl (hS b)) hsat.2, ⟨v, he, rfl⟩, hk v G hR⟩

/-- Where the fact is not wanted any more. -/
theorem SpecF.call0 {P : Program} {f : FuncId} {xs : List Value} {F : World → Prop} {R : Value → (World → Prop) → Prop} {H : List Ent} {K : Out → List Ent → Prop} (h : SpecF P f xs F R) (hF : ∀ w, Facts H w → F w)
    (hk : ∀ v G, R v G → K (.val (.c (.v v))) H) : SpecH P f (pvs xs) H K := by
  refine ⟨h.ok, fun ρ S w vs hs hr => ?_⟩
  obtain rfl := RelS_pvs hr
  refine (h.run _ w (hs.imm.mono hF) (fun b hb => hb.elim (hs.low b) fun hb => by obtain ⟨i, e, he, heb⟩ := appB_mb (ρ := ρ) hb; exact hs.blk_lt he heb)).mono fun e w' ⟨v, G, S', he, hR, hG, hS, hlow, bel⟩ => ?_
  exact ⟨ρ, S, H, .val (.c (.v v)), hs.below bel, by simpa using below_ev (S := S) (S' := S) (ρ := ρ) (H := H) (H' := H) [] bel (fun b hb => .inl hb) (fun b hb => by simpa using hb), ⟨v, he, rfl⟩, hk v G hR⟩

/-! ### From a body to such a call -/
def EntF (ρ : List Loc) (w : World) (i : Nat) : Ent → Prop
  | .blk T cs => ∃ l arr, ρ[i]? = some l ∧ w.heap[l.b]? = some (.cells arr T (0, 0)) ∧ RelL ρ cs arr.toList
  | .row T sz n cs => ∃ l arr, ρ[i]? = some l ∧ w.heap[l.b]? = some (.cells arr T (0, 0)) ∧ cs.length = n * sz ∧ n ≤ l.cap ∧ l.cap ≤ maxLen ∧ arr.size = l.cap * sz ∧ RelL ρ cs (arr.toList.take (n * sz))
  | .fact F => F w
  | .fz T sz n xs b cap => ρ[i]? = some ⟨b, cap⟩ ∧ RowF T sz n xs b cap w
  | .app T sz xs a n cap => (a = none ∧ n = 0 ∧ cap = 0 ∧ xs = []) ∨ ∃ b, a = some ⟨b, 0, none⟩ ∧ RowF T sz n xs b cap w
  | .mp b es c => w.heap[b]? = some (.map es c)
  | .dead => True
/-- What an abstract memory says of a world, its places given. -/
def All (ρ : List Loc) (H : List Ent) (w : World) : Prop := ∀ i e, H[i]? = some e → EntF ρ w i e
/-- The end of a body: at whatever places, the value and a fact that holds of it. -/
def Fin (R : Value → (World → Prop) → Prop) (out : Out) (H : List Ent) : Prop :=
  ∀ ρ v w0, All ρ H w0 → OutOk ρ out (.returned v) → ∃ G, R v G ∧ ∀ w, All ρ H w → G w
def notPan : Out → Prop
  | .pan _ => False
  | _ => True

theorem specF_of {P : Program} {f : FuncId} {xs : List Value} {F : World → Prop} {R : Value → (World → Prop) → Prop} (h : SpecH P f (pvs xs) [.fact F] fun out H' => notPan out ∧ Fin R out H') : SpecF P f xs F R := by
  refine ⟨h.ok, fun S w hF hlow => ?_⟩
  have nomb : ∀ b, ¬ mb [⟨0, 0⟩] [Ent.fact F] b := by
    rintro b ⟨i, e, he, ho⟩
    match i, he with
    | 0, he => simp at he; subst he; cases ho
  have hs : Sat [⟨0, 0⟩] S [.fact F] w := by
    refine ⟨rfl, fun i e he => ?_, fun i j e f b he hf heo => ?_, fun b hb => absurd hb (nomb b), hlow⟩
    · match i, he with
      | 0, he => simp at he; subst he; exact hF
    · match i, he with
      | 0, he => simp at he; subst he; cases heo
  refine (h.run _ S w xs hs (pvs_rel _ xs)).mono fun e w' ⟨ρ', S', H', out, hs', hev, hout, hn, hfin⟩ => ?_
  obtain ⟨v, rfl⟩ : ∃ v, e = .returned v := by
    cases out with
    | val av => obtain ⟨v, he, _⟩ := hout; exact ⟨v, he⟩
    | vals l => obtain ⟨v, he, _⟩ := hout; exact ⟨_, he⟩
    | pan c => exact hn.elim
  have hall : ∀ w'' : World, (∀ b, S' b ∨ mb ρ' H' b → w''.heap[b]? = w'.heap[b]?) → All ρ' H' w'' := fun w'' hw i e he => by
    have hk := hs'.ent i e he
    cases e with
    | blk T cs => obtain ⟨l, arr, hl, hb, hr⟩ := hk; exact ⟨l, arr, hl, by rw [hw l.b (.inr ⟨i, _, he, entB_own rfl hl⟩)]; exact hb, hr⟩
    | row T sz n cs => obtain ⟨l, arr, hl, hb, hr⟩ := hk; exact ⟨l, arr, hl, by rw [hw l.b (.inr ⟨i, _, he, entB_own rfl hl⟩)]; exact hb, hr⟩
    | fact F => exact hk.2 w'' fun b hb => hw b (.inl hb)
    | fz => exact ⟨hk.1, hk.2.2 w'' fun b hb => hw b (.inl hb)⟩
    | app T sz xs a n cap =>
      rcases hk with hk | ⟨b, rfl, hk⟩
      · exact .inl hk
      · exact .inr ⟨b, rfl, hk.move (hw b (.inr ⟨i, _, he, rfl⟩))⟩
    | mp b es c => exact (hw b (.inr ⟨i, _, he, rfl⟩)).trans hk
    | dead => trivial
  obtain ⟨G, hR, hG⟩ := hfin ρ' v w' (hall w' fun _ _ => rfl) hout
  refine ⟨v, G, fun b => S' b ∨ mb ρ' H' b, rfl, hR, ⟨hG _ (hall w' fun _ _ => rfl), fun w'' hw => hG w'' (hall w'' hw)⟩, ?_, ?_, ⟨hev.os, hev.tape, hev.output, hev.size, fun b hb => hev.keep b hb (nomb b)⟩⟩
  · rintro b (hb | hb)
    · rcases hev.imm b hb with h | h | h
      · exact .inl h
      · exact absurd h (nomb b)
      · exact .inr h
    · rcases hev.own b hb with h | h
      · exact absurd h (nomb b)
      · exact .inr h
  · rintro b (hb | hb)
    · exact hs'.low b hb
    · obtain ⟨i, e, he, heb⟩ := hb
      exact hs'.blk_lt he heb

theorem specF {P : Program} (hm : P.follows .mixedOrders = true) {f : FuncId} {fn : Func} {c : Code} (hf : P.funcs[f]? = some fn) (hn : (fn.name == "runtime.NumGoroutine") = false) (hb : fn.body = some c)
    {xs : List Value} (hl : Nat.ble (pvs xs).length fn.ntmps = true) {F : World → Prop} {R : Value → (World → Prop) → Prop} (h : initK fn.ntmps (pvs xs) fun s => exec P c s [.fact F] (endK P fn.results.toList fun out H' => notPan out ∧ Fin R out H')) : SpecF P f xs F R :=
  specF_of (spec_of_exec hm hf hn hb hl h)

theorem fin_v {R : Value → (World → Prop) → Prop} {x : Value} {H : List Ent} (h : R x fun _ => True) : notPan (.val (.c (.v x))) ∧ Fin R (.val (.c (.v x))) H :=
  ⟨trivial, fun _ v _ _ hv => by
    obtain ⟨_, e, hr⟩ := hv
    obtain rfl := Ending.returned.inj e
    have : v = x := hr
    subst this
    exact ⟨_, h, fun _ _ => trivial⟩⟩

theorem vs_only {ρ : List Loc} : ∀ {xs vs' : List Value}, RelL ρ (vs xs) vs' → vs' = xs
  | [], [], _ => rfl
  | x :: xs, v :: vs', h => by
    have h1 : v = x := h.1
    rw [h1, vs_only h.2]
  | [], _ :: _, h => h.elim
  | _ :: _, [], h => h.elim

/-- A row of plain values becomes a fact. -/
theorem EntF.row {ρ : List Loc} {w : World} {i : Nat} {T : TypeId} {sz n : Nat} {xs : List Value} {l : Loc} (h : EntF ρ w i (.row T sz n (vs xs))) (hl : ρ[i]? = some l) : RowF T sz n xs l.b l.cap w := by
  obtain ⟨l', arr, hl', hb, h1, h2, h3, h4, hr⟩ := h
  obtain rfl := Option.some.inj (hl'.symm.trans hl)
  exact ⟨arr, hb, by rwa [vs_len] at h1, h2, h3, h4, vs_only hr⟩

/-- The result is a slice of the call's own. -/
theorem fin_sl {R : Value → (World → Prop) → Prop} {i n : Nat} {T : TypeId} {sz : Nat} {xs : List Value} {H : List Ent} (hi : nthE H i = some (.row T sz n (vs xs)))
    (h : ∀ b cap, n ≤ cap → cap ≤ maxLen → R (.slice (some ⟨b, 0, none⟩) n cap) (RowF T sz n xs b cap)) : notPan (.val (.c (.sl i n))) ∧ Fin R (.val (.c (.sl i n))) H := by
  refine ⟨trivial, fun ρ v w0 h0 hv => ?_⟩
  obtain ⟨_, e, l, hl, hr⟩ := hv
  obtain rfl := Ending.returned.inj e
  subst hr
  rw [nthE_eq] at hi
  obtain ⟨arr, _, _, h2, h3, _⟩ := (h0 i _ hi).row hl
  exact ⟨_, h l.b l.cap h2 h3, fun w hall => (hall i _ hi).row hl⟩
end Go.AX
