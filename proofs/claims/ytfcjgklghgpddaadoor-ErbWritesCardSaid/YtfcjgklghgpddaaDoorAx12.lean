/-
  AX, twelfth text: how the executor is used.
-/
import Derived.Test.YtfcjgklghgpddaaDoorAx11
namespace Go.AX

/-- The call hands back x and leaves the abstract memory as it is. -/
def Ret (x : Value) (H : List Ent) : Out → List Ent → Prop := fun out H' => out = .val (.c (.v x)) ∧ H' = H
/-- The call hands back some x of R and leaves the abstract memory as it is. -/
def RetR (R : Value → Prop) (H : List Ent) : Out → List Ent → Prop := fun out H' => ∃ x, out = .val (.c (.v x)) ∧ R x ∧ H' = H

theorem Sat.nil (w : World) : Sat [] (fun _ => False) [] w :=
  ⟨rfl, fun i e he => by simp at he, fun i j e f b he => by simp at he, fun b _ h => h, fun b h => h.elim⟩

theorem RelS_pvs {ρ : List Loc} : ∀ {xs vs : List Value}, RelS ρ (pvs xs) vs → vs = xs
  | [], [], _ => rfl
  | x :: xs, v :: vs, h => by
    have h1 : v = x := h.1
    rw [h1, RelS_pvs (xs := xs) h.2]
  | [], _ :: _, h => h.elim
  | _ :: _, [], h => h.elim

theorem mb_nil (ρ : List Loc) (b : Nat) : ¬ mb ρ [] b := fun ⟨i, e, he, _⟩ => by simp at he

/-- What holds of a call that knows of no memory holds of it in any. -/
theorem SpecH.frame {P : Program} {f : FuncId} {xs : List Value} {R : Value → Prop} (h : SpecH P f (pvs xs) [] fun out _ => ∃ x, out = .val (.c (.v x)) ∧ R x) (H : List Ent) : SpecH P f (pvs xs) H (RetR R H) := by
  refine ⟨h.ok, fun ρ S w vs hs hr => ?_⟩
  have hv := RelS_pvs hr
  subst hv
  refine (h.run [] (fun _ => False) w vs (Sat.nil w) (pvs_rel [] vs)).mono fun e w' ⟨ρ', S', H', out, hs', hev, hout, x, hx, hR⟩ => ?_
  subst hx
  obtain ⟨v, rfl, hv⟩ := hout
  have : v = x := hv
  subst this
  have hk : ∀ b, b < w.heap.size → w'.heap[b]? = w.heap[b]? := fun b hb => hev.keep b hb (mb_nil [] b)
  refine ⟨ρ, S, H, .val (.c (.v v)), ⟨hs.len, fun i e he => ?_, hs.inj, hs.out, fun b hb => Nat.lt_of_lt_of_le (hs.low b hb) hev.size⟩,
    ⟨⟨[], by simp⟩, hev.os, hev.tape, hev.output, hev.size, fun b hb _ => hk b hb, fun b hb => .inl hb, fun b hb => .inl hb⟩, ⟨v, rfl, rfl⟩, v, rfl, hR, rfl⟩
  have := (hs.ent i e he).move (w' := w') [] (fun b hb => hk _ (hs.blk_lt he hb)) fun b hb => hk b (hs.low b hb)
  simpa using this

theorem pureC {P : Program} (hm : P.follows .mixedOrders = true) {f : FuncId} {fn : Func} {c : Code} (hf : P.funcs[f]? = some fn) (hn : (fn.name == "runtime.NumGoroutine") = false) (hb : fn.body = some c)
    {xs : List Value} (hl : Nat.ble (pvs xs).length fn.ntmps = true) {r : Value} (h : initK fn.ntmps (pvs xs) fun s => exec P c s [] (endK P fn.results.toList fun out _ => out = .val (.c (.v r)))) (H : List Ent) : SpecH P f (pvs xs) H (Ret r H) :=
  ((spec_of_exec hm hf hn hb hl h).mono fun out _ ho => ⟨r, ho, rfl⟩ : SpecH P f (pvs xs) [] fun out _ => ∃ x, out = .val (.c (.v x)) ∧ x = r).frame H |>.mono fun _ _ ⟨_, ho, hx, hH⟩ => ⟨by rw [ho, hx], hH⟩

theorem pureR {P : Program} (hm : P.follows .mixedOrders = true) {f : FuncId} {fn : Func} {c : Code} (hf : P.funcs[f]? = some fn) (hn : (fn.name == "runtime.NumGoroutine") = false) (hb : fn.body = some c)
    {xs : List Value} (hl : Nat.ble (pvs xs).length fn.ntmps = true) {R : Value → Prop} (h : initK fn.ntmps (pvs xs) fun s => exec P c s [] (endK P fn.results.toList fun out _ => ∃ x, out = .val (.c (.v x)) ∧ R x)) (H : List Ent) : SpecH P f (pvs xs) H (RetR R H) :=
  (spec_of_exec hm hf hn hb hl h).frame H

/-- A call whose contract gives one value. -/
theorem call1 {P : Program} {f : FuncId} {args : List AV} {H : List Ent} {x : Value} {K : Out → List Ent → Prop} (h : SpecH P f args H (Ret x H)) (hk : K (.val (.c (.v x))) H) : SpecH P f args H K :=
  h.mono fun _ _ ⟨ho, hH⟩ => by rw [ho, hH]; exact hk
theorem callR {P : Program} {f : FuncId} {args : List AV} {H : List Ent} {R : Value → Prop} {K : Out → List Ent → Prop} (h : SpecH P f args H (RetR R H)) (hk : ∀ x, R x → K (.val (.c (.v x))) H) : SpecH P f args H K :=
  h.mono fun _ _ ⟨x, ho, hR, hH⟩ => by rw [ho, hH]; exact hk x hR
theorem callQ {P : Program} {f : FuncId} {args : List AV} {H : List Ent} {x : Value} {K : AV → Prop} (h : SpecH P f args H (Ret x H)) (hk : K (.c (.v x))) : QCall P f args H K :=
  .intro x h (by rw [forceV_eq]; exact hk)

theorem out_int {k : IntKind} {a b : Int} (h : a = b) : Out.val (.c (.v (.int k a))) = Out.val (.c (.v (.int k b))) := by rw [h]
theorem out_bool {a b : Bool} (h : a = b) : Out.val (.c (.v (.bool a))) = Out.val (.c (.v (.bool b))) := by rw [h]

theorem brd_dec {p : Prop} [Decidable p] {A B : Prop} (hA : p → A) (hB : ¬ p → B) : brd (decide p) A B :=
  brd_intro (fun h => hA (of_decide_eq_true h)) fun h => hB (of_decide_eq_false h)
theorem brd_eq {a b : Int} {A B : Prop} (hA : a = b → A) (hB : ¬ a = b → B) : brd (a == b) A B :=
  brd_intro (fun h => hA (by simpa using h)) fun h => hB (by simpa using h)
theorem brd_ne {a b : Int} {A B : Prop} (hA : ¬ a = b → A) (hB : a = b → B) : brd (a != b) A B :=
  brd_intro (fun h => hA (by simpa using h)) fun h => hB (by simpa using h)
theorem brd_not {b : Bool} {A B : Prop} (h : brd b B A) : brd (!b) A B := by cases b <;> exact h
theorem vr_name {n : Int} {K : Int → Prop} (h : ∀ x, x = n → K x) : VrN n K := ⟨h n rfl⟩
theorem wrap_eq (x : Int) : IntKind.wrap .i64 x = if x % 18446744073709551616 ≥ 9223372036854775808 then x % 18446744073709551616 - 18446744073709551616 else x % 18446744073709551616 := by
  simp [IntKind.wrap, IntKind.bits, IntKind.signed]
theorem wrap_i64 {x : Int} (h : -9223372036854775808 ≤ x ∧ x < 9223372036854775808) : IntKind.wrap .i64 x = x := by
  rw [wrap_eq]
  split <;> omega

theorem wrap_u64_eq (x : Int) : IntKind.wrap .u64 x = x % 18446744073709551616 := by
  simp [IntKind.wrap, IntKind.bits, IntKind.signed]
theorem wrap_u64 {x : Int} (h : 0 ≤ x ∧ x < 18446744073709551616) : IntKind.wrap .u64 x = x := by rw [wrap_u64_eq]; omega
theorem wrap_u64_bd (x : Int) : 0 ≤ IntKind.wrap .u64 x ∧ IntKind.wrap .u64 x < 18446744073709551616 := by rw [wrap_u64_eq]; omega
theorem wrap_u8_eq (x : Int) : IntKind.wrap .u8 x = x % 256 := by
  simp [IntKind.wrap, IntKind.bits, IntKind.signed]
theorem wrap_u8 {x : Int} (h : 0 ≤ x ∧ x < 256) : IntKind.wrap .u8 x = x := by rw [wrap_u8_eq]; omega
/-! ### Loops -/
theorem wkC_refl (c : CV) : wkC c c := by cases c <;> simp [wkC]
theorem wkCs_refl : ∀ cs : List CV, wkCs cs cs
  | [] => trivial
  | c :: cs => ⟨wkC_refl c, wkCs_refl cs⟩
theorem wkE_refl (e : Ent) : wkE e e := by
  cases e with
  | blk T cs => exact ⟨rfl, wkCs_refl cs⟩
  | row T a n cs => exact ⟨rfl, rfl, rfl, rfl⟩
  | fact F => exact fun _ h => h
  | fz => exact ⟨rfl, rfl, rfl, rfl, rfl, rfl⟩
  | app => exact .inl ⟨rfl, rfl, rfl, rfl, rfl, rfl⟩
  | mp => exact ⟨rfl, rfl, rfl⟩
  | dead => trivial
/-- A slice that grew is nil again. -/
theorem wkE_nil {T U : TypeId} {sz sz' : Nat} {xs : List Value} {a : Option Addr} {n cap : Nat} : wkE (.app T sz xs a n cap) (.app U sz' [] none 0 0) := .inr (.inl ⟨rfl, rfl, rfl, rfl⟩)
/-- A slice that grew is shorter again. -/
theorem wkE_cut {T : TypeId} {sz : Nat} {xs ys : List Value} {a : Option Addr} {n m cap : Nat} (hm : m ≤ n) (hy : ys = xs.take (m * sz)) : wkE (.app T sz xs a n cap) (.app T sz ys a m cap) := .inr (.inr ⟨rfl, rfl, hy, rfl, hm, rfl⟩)
theorem wkH_pre : ∀ (H X : List Ent), wkH (H ++ X) H
  | [], _ => by simp [wkH]
  | e :: H, X => ⟨wkE_refl e, wkH_pre H X⟩
theorem wkH_refl (H : List Ent) : wkH H H := by simpa using wkH_pre H []
def okHB (n : Nat) : List Ent → Bool
  | [] => true
  | .blk _ cs :: H => match okCsB n cs with | true => okHB n H | false => false
  | .row _ _ _ cs :: H => match okCsB n cs with | true => okHB n H | false => false
  | _ :: H => okHB n H
theorem okHB_eq {n : Nat} : ∀ {H : List Ent}, okHB n H = true → okH n H
  | [], _ => trivial
  | .blk _ cs :: H, h => by
    simp only [okHB] at h
    split at h
    · rename_i hc; exact ⟨okCsB_eq hc, okHB_eq h⟩
    · cases h
  | .row _ _ _ cs :: H, h => by
    simp only [okHB] at h
    split at h
    · rename_i hc; exact ⟨okCsB_eq hc, okHB_eq h⟩
    · cases h
  | .fact _ :: H, h => ⟨trivial, okHB_eq (H := H) h⟩
  | .fz .. :: H, h => ⟨trivial, okHB_eq (H := H) h⟩
  | .app .. :: H, h => ⟨trivial, okHB_eq (H := H) h⟩
  | .mp .. :: H, h => ⟨trivial, okHB_eq (H := H) h⟩
  | .dead :: H, h => ⟨trivial, okHB_eq (H := H) h⟩
/-- A loop that leaves the abstract memory as it is. -/
theorem loopS {E : List AV → List Ent → (Ex → List AV → List Ent → Prop) → Prop} {s : List AV} {H : List Ent} {K : Ex → List AV → List Ent → Prop}
    (ι : Type) (inv : ι → Prop) (sl : ι → List AV) (μ : ι → Nat) (okh : okHB H.length H = true) (oks : ∀ i, okSB H.length (sl i) = true)
    (i0 : ι) (h0 : inv i0) (start : wkS s (sl i0))
    (round : ∀ i, inv i → forceS (sl i) fun s => E s H fun e s' H' => match e with
        | .normal => ∃ j, inv j ∧ μ j < μ i ∧ wkS s' (sl j) ∧ wkH H' H
        | .exit n => K (.exit n) s' H'
        | .ret => K .ret s' H'
        | .pan c => K (.pan c) s' H') : LoopN E s H K :=
  .intro ι inv sl (fun _ => H) μ [] rfl (fun _ => by simp) (by simpa using oks) (fun _ _ => by simpa using okHB_eq okh) ⟨i0, h0, start, by simpa using wkH_refl H⟩ fun i hi => by
    rw [forceS_eq, forceH_eq]
    have := round i hi
    rw [forceS_eq] at this
    exact this
theorem wkC_int {k : IntKind} {a b : Int} (h : a = b) : wkC (.v (.int k a)) (.v (.int k b)) := by rw [h]; exact wkC_refl _
theorem av_int {k : IntKind} {a b : Int} (h : a = b) : AV.c (.v (.int k a)) = AV.c (.v (.int k b)) := by rw [h]
end Go.AX
namespace Go.AX
theorem VrN.norm {n m : Int} {K : Int → Prop} (h : n = m) (hk : K m) : VrN n K := .keep (by rw [h]; exact hk)
end Go.AX
