/-
  AX, seventeenth text: contracts that were proved of the model's calls, brought in.
-/
import Derived.Test.YtfcjgklghgpddaaDoorAx16
namespace Go.AX
open Go.RowKit

/-- A call over plain values that writes nothing that was there. -/
theorem SpecH.rawP {P : Program} {f : FuncId} {xs : List Value} {H : List Ent} {K : Out → List Ent → Prop} {R : Value → Prop} (ok : CallOk P f)
    (h : ∀ w, Facts H w → Calls P f xs.toArray w fun e w' => ∃ r, e = .returned r ∧ R r ∧ Below w.heap.size w w') (hk : ∀ r, R r → K (.val (.c (.v r))) H) : SpecH P f (pvs xs) H K := by
  refine ⟨ok, fun ρ S w vs hs hr => ?_⟩
  obtain rfl := RelS_pvs hr
  refine (h w hs.facts).mono fun e w' ⟨r, he, hR, bel⟩ => ?_
  exact ⟨ρ, S, H, .val (.c (.v r)), hs.below bel, by simpa using below_ev (S := S) (S' := S) (ρ := ρ) (H := H) (H' := H) [] bel (fun b hb => .inl hb) (fun b hb => by simpa using hb), ⟨r, he, rfl⟩, hk r hR⟩

/-- A call over plain values that turns one slice that grows. -/
theorem SpecH.rawA {P : Program} {f : FuncId} {xs : List Value} {H : List Ent} {K : Out → List Ent → Prop} (ok : CallOk P f) (i : Nat) {T : TypeId} {sz : Nat} {ys : List Value} {b n cap : Nat} (hi : nthE H i = some (.app T sz ys (some ⟨b, 0, none⟩) n cap))
    {R : Value → Nat → List Value → Prop}
    (h : ∀ w : World, RowF T sz n ys b cap w → b < w.heap.size → Calls P f xs.toArray w fun e w' => ∃ r n' ys', e = .returned r ∧ R r n' ys' ∧ RowF T sz n' ys' b cap w' ∧ w.heap.size ≤ w'.heap.size ∧
      (∀ k, k < w.heap.size → k ≠ b → w'.heap[k]? = w.heap[k]?) ∧ w'.os = w.os ∧ w'.tape = w.tape ∧ w'.output = w.output)
    (hk : ∀ r n' ys', R r n' ys' → setEK H i (.app T sz ys' (some ⟨b, 0, none⟩) n' cap) fun H' => K (.val (.c (.v r))) H') : SpecH P f (pvs xs) H K := by
  rw [nthE_eq] at hi
  refine ⟨ok, fun ρ S w vs hs hr => ?_⟩
  obtain rfl := RelS_pvs hr
  have hb : b < w.heap.size := hs.blk_lt hi rfl
  rcases hs.ent i _ hi with ⟨h0, _⟩ | ⟨b', hb', hrow⟩
  · cases h0
  · cases hb'
    refine (h w hrow hb).mono fun e w' ⟨r, n', ys', he, hR, hrow', hsz, hkeep, ho, ht, hu⟩ => ?_
    obtain ⟨_, hk⟩ := setEK_spec (hk r n' ys' hR)
    have hS := hs.setG (e' := .app T sz ys' (some ⟨b, 0, none⟩) n' cap) hi rfl hsz hkeep ho ht hu (fun c hc => .inl (Option.some.inj hc).symm) (.inr ⟨b, rfl, hrow'⟩)
    exact ⟨ρ, S, _, .val (.c (.v r)), hS.1, hS.2, ⟨r, he, rfl⟩, hk⟩

theorem callOk {P : Program} {f : FuncId} {fn : Func} (hf : P.funcs[f]? = some fn) (hn : (fn.name == "runtime.NumGoroutine") = false) (hb : fn.body.isSome = true) : CallOk P f := ⟨fn, hf, hn, hb⟩

/-- What is weakened behind a call. -/
theorem SpecH.wk {P : Program} {f : FuncId} {args : List AV} {H : List Ent} {x : Value} {G : List Ent} (hok : okHB G.length G = true) (hl : H.length ≤ G.length) (h : SpecH P f args H fun out H' => out = .val (.c (.v x)) ∧ wkH H' G) : SpecH P f args H fun out H' => out = .val (.c (.v x)) ∧ H' = G := by
  refine ⟨h.ok, fun ρ S w vs hs hr => (h.run ρ S w vs hs hr).mono fun e w' ⟨ρ', S', H', out, hs', hev, hout, hx, hw⟩ => ?_⟩
  subst hx
  obtain ⟨h1, h2⟩ := hs'.weak hw (okHB_eq hok)
  refine ⟨ρ'.take G.length, S', G, .val (.c (.v x)), h1, ⟨?_, hev.os, hev.tape, hev.output, hev.size, hev.keep, hev.imm, fun b hb => hev.own b (h2 b hb)⟩, hout, rfl, rfl⟩
  obtain ⟨t, ht⟩ := hev.pre
  refine ⟨t.take (G.length - ρ.length), ?_⟩
  rw [ht, List.take_append, List.take_of_length_le (by rw [hs.len]; exact hl)]

/-- One value under a fact; nothing turns. -/
theorem factC {P : Program} (hm : P.follows .mixedOrders = true) {f : FuncId} {fn : Func} {c : Code} (hf : P.funcs[f]? = some fn) (hn : (fn.name == "runtime.NumGoroutine") = false) (hb : fn.body = some c)
    {xs : List Value} (hl : Nat.ble (pvs xs).length fn.ntmps = true) {F : World → Prop} {r : Value} (h : initK fn.ntmps (pvs xs) fun s => exec P c s [.fact F] (endK P fn.results.toList fun out _ => out = .val (.c (.v r)))) (H : List Ent) (hF : ∀ w, Facts H w → F w) : SpecH P f (pvs xs) H (Ret r H) :=
  SpecF.call0 (R := fun v _ => v = r) (specF_of ((spec_of_exec hm hf hn hb hl h).mono fun out H' ho => by subst ho; exact fin_v rfl)) hF fun v G hv => by subst hv; exact ⟨rfl, rfl⟩
/-- Some value under a fact; nothing turns. -/
theorem factR {P : Program} (hm : P.follows .mixedOrders = true) {f : FuncId} {fn : Func} {c : Code} (hf : P.funcs[f]? = some fn) (hn : (fn.name == "runtime.NumGoroutine") = false) (hb : fn.body = some c)
    {xs : List Value} (hl : Nat.ble (pvs xs).length fn.ntmps = true) {F : World → Prop} {R : Value → Prop} (h : initK fn.ntmps (pvs xs) fun s => exec P c s [.fact F] (endK P fn.results.toList fun out _ => ∃ x, out = .val (.c (.v x)) ∧ R x)) (H : List Ent) (hF : ∀ w, Facts H w → F w) : SpecH P f (pvs xs) H (RetR R H) :=
  SpecF.call0 (R := fun v _ => R v) (specF_of ((spec_of_exec hm hf hn hb hl h).mono fun out H' ho => by obtain ⟨x, rfl, hx⟩ := ho; exact fin_v hx)) hF fun v G hv => ⟨v, rfl, hv, rfl⟩
theorem wkC_v {x y : Value} (h : x = y) : wkC (.v x) (.v y) := by rw [h]; exact wkC_refl _
theorem okCs_vs (n : Nat) : ∀ xs : List Value, okCs n (vs xs)
  | [] => trivial
  | _ :: xs => ⟨trivial, okCs_vs n xs⟩
theorem brdF {b : Bool} {A B : Prop} (h : b = false) (hB : B) : brd b A B := by subst h; exact hB
theorem brdT {b : Bool} {A B : Prop} (h : b = true) (hA : A) : brd b A B := by subst h; exact hA
theorem av_bool {a b : Bool} (h : a = b) : AV.c (.v (.bool a)) = AV.c (.v (.bool b)) := by rw [h]
end Go.AX
