/-
  Lemmas (LB3 Ax26 Ax28 Ax29 Ax25 Ax30 Ax31 P1 P2 P3 C1 P9 C2 C3 C4 C5 C6 P10).
-/
import Derived.WideMake
import Derived.Laws.IdiomCopy
import Derived.Laws.MakeOwn
import Derived.Laws.IdiomStrings
import Derived.Test.YtjkchonpnocffaaDoorMh3
/-
  Contracts: the last place of a byte; blanks trimmed.
-/
namespace Go.Proofs.YtjkchonpnocffaaDoor
open Go.AX Go.RowKit
set_option maxRecDepth 20000

/-- A table of truth values by byte. -/
def TabB (xs : List Value) (p : UInt8 → Bool) : Prop := ∀ c : UInt8, xs[c.toNat]? = some (.bool (p c))
theorem rnCs_vs (σ : List Nat) (N : Nat) : ∀ xs : List Value, rnCs σ N (vs xs) = vs xs
  | [] => rfl
  | x :: xs => by simp [vs, rnCs, rnC, rnCs_vs σ N xs]
theorem contains_c (T : TypeId) (xs : List Value) (p : UInt8 → Bool) (hp : TabB xs p) (c : UInt8) : SpecH Tryd.prog 98 [.c (.lp 0 0), .c (.v (.int .u8 (c.toNat : Int)))] [.blk T (vs xs)]
    (RetG (ι := Unit) (fun _ => True) (fun _ => .bool (p c)) fun _ => [.blk T (vs xs)]) := by
  refine ownC hm Tryd.func98 (by kernel_rfl) rfl rfl (fun _ _ => ⟨okCs_vs _ xs, trivial⟩) (fun _ _ => Nat.le_refl _) ?_
  have hc := c.toNat_lt
  ((conv => whnf); (repeat ((first | refine BoxN.own ?_ | refine RwN.own ?_ | refine VrN.norm (wrap_i64 (by omega)) ?_ | refine VrN.keep ?_ | refine DrawN.calm (by decide +kernel) ?_ | refine Nd.mk (by decide +kernel) ?_ | refine Nd.mk (by omega) ?_ | (refine Nd.mk ?_ ?_; focus ((repeat' (first | exact trivial | exact wkE_refl _ | refine And.intro ?_ ?_)); done)) | refine RdN.intro _ rfl (by rfl) ?_); (conv => whnf))))
  have key : ∀ z, z = c.toNat → nthC (vs xs) z = some (.v (.bool (p c))) := fun z hz => by rw [hz, nthC_eq, vs_eq, List.getElem?_map, hp c]; rfl
  rw [key _ (by show 0 + Int.toNat (c.toNat : Int) * 1 = _; omega)]
  ((conv => whnf); (repeat ((first | refine BoxN.own ?_ | refine RwN.own ?_ | refine VrN.norm (wrap_i64 (by omega)) ?_ | refine VrN.keep ?_ | refine DrawN.calm (by decide +kernel) ?_ | refine Nd.mk (by decide +kernel) ?_ | refine Nd.mk (by omega) ?_ | (refine Nd.mk ?_ ?_; focus ((repeat' (first | exact trivial | exact wkE_refl _ | refine And.intro ?_ ?_)); done)) | refine RdN.intro _ rfl (by rfl) ?_); (conv => whnf))))
  exact ⟨(), trivial, rfl, wkH_refl _⟩
theorem trimLeftASCII_c (T : TypeId) (xs : List Value) (p : UInt8 → Bool) (hp : TabB xs p) (s : List UInt8) : SpecH Tryd.prog 75 [.c (.v (.string (bs s))), .c (.lp 0 0)] [.blk T (vs xs)]
    (RetG (ι := Unit) (fun _ => True) (fun _ => .string (bs (s.dropWhile p))) fun _ => [.blk T (vs xs)]) := by
  refine ownC hm Tryd.func75 (by kernel_rfl) rfl rfl (fun _ _ => ⟨okCs_vs _ xs, trivial⟩) (fun _ _ => Nat.le_refl _) ?_
  ((conv => whnf); (repeat ((first | refine BoxN.own ?_ | refine RwN.own ?_ | refine VrN.norm (wrap_i64 (by omega)) ?_ | refine VrN.keep ?_ | refine DrawN.calm (by decide +kernel) ?_ | refine Nd.mk (by decide +kernel) ?_ | refine Nd.mk (by omega) ?_ | (refine Nd.mk ?_ ?_; focus ((repeat' (first | exact trivial | exact wkE_refl _ | refine And.intro ?_ ?_)); done)) | refine RdN.intro _ rfl (by rfl) ?_); (conv => whnf))))
  refine LoopN.intro (List UInt8) (fun l => l.dropWhile p = s.dropWhile p) (fun l => mkS Tryd.f75.ntmps 0 [(0, .c (.v (.string (bs l)))), (1, .c (.lp 0 0))]) (fun _ => [.blk T (vs xs)]) (fun l => l.length) [] rfl (fun _ => rfl) (fun _ => rfl) (fun _ _ => ⟨okCs_vs _ xs, trivial⟩) ⟨s, rfl, ?_, wkH_refl _⟩ fun l hl => ?_
  · (repeat' (first | exact trivial | refine And.intro (by with_reducible rfl) ?_ | (with_reducible exact wkC_refl _) | (with_reducible exact wkCs_refl _) | refine And.intro ?_ ?_))
    all_goals rfl
  cases l with
  | nil =>
    ((conv => whnf); (repeat ((first | refine BoxN.own ?_ | refine RwN.own ?_ | refine VrN.norm (wrap_i64 (by omega)) ?_ | refine VrN.keep ?_ | refine DrawN.calm (by decide +kernel) ?_ | refine Nd.mk (by decide +kernel) ?_ | refine Nd.mk (by omega) ?_ | (refine Nd.mk ?_ ?_; focus ((repeat' (first | exact trivial | exact wkE_refl _ | refine And.intro ?_ ?_)); done)) | refine RdN.intro _ rfl (by rfl) ?_); (conv => whnf))))
    exact ⟨(), trivial, by rw [← hl]; rfl, wkH_refl _⟩
  | cons c l =>
    have hb : byteAt (bs (c :: l)) 0 = (c.toNat : Int) := byteAt_get rfl
    ((conv => whnf); (repeat ((first | refine BoxN.own ?_ | refine RwN.own ?_ | refine VrN.norm (wrap_i64 (by omega)) ?_ | refine VrN.keep ?_ | refine DrawN.calm (by decide +kernel) ?_ | refine Nd.mk (by decide +kernel) ?_ | refine Nd.mk (by omega) ?_ | (refine Nd.mk ?_ ?_; focus ((repeat' (first | exact trivial | exact wkE_refl _ | refine And.intro ?_ ?_)); done)) | refine RdN.intro _ rfl (by rfl) ?_); (conv => whnf))))
    rw [bs_size]
    refine brd_dec (fun _ => ?_) (fun h => by simp at h)
    ((conv => whnf); (repeat ((first | refine BoxN.own ?_ | refine RwN.own ?_ | refine VrN.norm (wrap_i64 (by omega)) ?_ | refine VrN.keep ?_ | refine DrawN.calm (by decide +kernel) ?_ | refine Nd.mk (by decide +kernel) ?_ | refine Nd.mk (by omega) ?_ | (refine Nd.mk ?_ ?_; focus ((repeat' (first | exact trivial | exact wkE_refl _ | refine And.intro ?_ ?_)); done)) | refine RdN.intro _ rfl (by rfl) ?_); (conv => whnf))))
    refine Nd.mk ⟨by omega, by rw [bs_size]; simp⟩ ?_
    rw [show ((0 : Int).toNat) = 0 from rfl, hb]
    ((conv => whnf); (repeat ((first | refine BoxN.own ?_ | refine RwN.own ?_ | refine VrN.norm (wrap_i64 (by omega)) ?_ | refine VrN.keep ?_ | refine DrawN.calm (by decide +kernel) ?_ | refine Nd.mk (by decide +kernel) ?_ | refine Nd.mk (by omega) ?_ | (refine Nd.mk ?_ ?_; focus ((repeat' (first | exact trivial | exact wkE_refl _ | refine And.intro ?_ ?_)); done)) | refine RdN.intro _ rfl (by rfl) ?_); (conv => whnf))))
    refine callG (contains_c T xs p hp c) [0] rfl ⟨by show some _ = some (rnE _ _ _); simp [rnE, rnCs_vs], trivial⟩ rfl fun _ _ => ?_
    ((conv => whnf); (repeat ((first | refine BoxN.own ?_ | refine RwN.own ?_ | refine VrN.norm (wrap_i64 (by omega)) ?_ | refine VrN.keep ?_ | refine DrawN.calm (by decide +kernel) ?_ | refine Nd.mk (by decide +kernel) ?_ | refine Nd.mk (by omega) ?_ | (refine Nd.mk ?_ ?_; focus ((repeat' (first | exact trivial | exact wkE_refl _ | refine And.intro ?_ ?_)); done)) | refine RdN.intro _ rfl (by rfl) ?_); (conv => whnf))))
    refine brd_not (brd_intro (fun h => ?_) (fun h => ?_))
    · ((conv => whnf); (repeat ((first | refine BoxN.own ?_ | refine RwN.own ?_ | refine VrN.norm (wrap_i64 (by omega)) ?_ | refine VrN.keep ?_ | refine DrawN.calm (by decide +kernel) ?_ | refine Nd.mk (by decide +kernel) ?_ | refine Nd.mk (by omega) ?_ | (refine Nd.mk ?_ ?_; focus ((repeat' (first | exact trivial | exact wkE_refl _ | refine And.intro ?_ ?_)); done)) | refine RdN.intro _ rfl (by rfl) ?_); (conv => whnf))))
      refine ReadW.sl_l 1 rfl (by kernel_rfl) rfl rfl ⟨rfl, by simp⟩ ?_
      ((conv => whnf); (repeat ((first | refine BoxN.own ?_ | refine RwN.own ?_ | refine VrN.norm (wrap_i64 (by omega)) ?_ | refine VrN.keep ?_ | refine DrawN.calm (by decide +kernel) ?_ | refine Nd.mk (by decide +kernel) ?_ | refine Nd.mk (by omega) ?_ | (refine Nd.mk ?_ ?_; focus ((repeat' (first | exact trivial | exact wkE_refl _ | refine And.intro ?_ ?_)); done)) | refine RdN.intro _ rfl (by rfl) ?_); (conv => whnf))))
      refine ⟨l, by rw [← hl, List.dropWhile_cons_of_pos h], by simp, ?_, wkH_of_eq (by simp [rnE, rnCs_vs])⟩
      (repeat' (first | exact trivial | refine And.intro (by with_reducible rfl) ?_ | (with_reducible exact wkC_refl _) | (with_reducible exact wkCs_refl _) | refine And.intro ?_ ?_))
      rfl
    · ((conv => whnf); (repeat ((first | refine BoxN.own ?_ | refine RwN.own ?_ | refine VrN.norm (wrap_i64 (by omega)) ?_ | refine VrN.keep ?_ | refine DrawN.calm (by decide +kernel) ?_ | refine Nd.mk (by decide +kernel) ?_ | refine Nd.mk (by omega) ?_ | (refine Nd.mk ?_ ?_; focus ((repeat' (first | exact trivial | exact wkE_refl _ | refine And.intro ?_ ?_)); done)) | refine RdN.intro _ rfl (by rfl) ?_); (conv => whnf))))
      exact ⟨(), trivial, by rw [← hl, List.dropWhile_cons_of_neg (by simp [h])], wkH_of_eq (by simp [rnE, rnCs_vs])⟩
def trimE (p : UInt8 → Bool) (s : List UInt8) : List UInt8 := (s.reverse.dropWhile p).reverse
theorem trimE_snoc (p : UInt8 → Bool) (s : List UInt8) (c : UInt8) : trimE p (s ++ [c]) = if p c then trimE p s else s ++ [c] := by
  unfold trimE
  rw [List.reverse_append, List.reverse_singleton, List.singleton_append, List.dropWhile_cons]
  split <;> simp
theorem trimRightASCII_c (T : TypeId) (xs : List Value) (p : UInt8 → Bool) (hp : TabB xs p) (s : List UInt8) (hs : s.length ≤ 1000000000) : SpecH Tryd.prog 80 [.c (.v (.string (bs s))), .c (.lp 0 0)] [.blk T (vs xs)]
    (RetG (ι := Unit) (fun _ => True) (fun _ => .string (bs (trimE p s))) fun _ => [.blk T (vs xs)]) := by
  refine ownC hm Tryd.func80 (by kernel_rfl) rfl rfl (fun _ _ => ⟨okCs_vs _ xs, trivial⟩) (fun _ _ => Nat.le_refl _) ?_
  ((conv => whnf); (repeat ((first | refine BoxN.own ?_ | refine RwN.own ?_ | refine VrN.norm (wrap_i64 (by omega)) ?_ | refine VrN.keep ?_ | refine DrawN.calm (by decide +kernel) ?_ | refine Nd.mk (by decide +kernel) ?_ | refine Nd.mk (by omega) ?_ | (refine Nd.mk ?_ ?_; focus ((repeat' (first | exact trivial | exact wkE_refl _ | refine And.intro ?_ ?_)); done)) | refine RdN.intro _ rfl (by rfl) ?_); (conv => whnf))))
  refine LoopN.intro (List UInt8) (fun l => trimE p l = trimE p s ∧ l.length ≤ 1000000000) (fun l => mkS Tryd.f80.ntmps 0 [(0, .c (.v (.string (bs l)))), (1, .c (.lp 0 0))]) (fun _ => [.blk T (vs xs)]) (fun l => l.length) [] rfl (fun _ => rfl) (fun _ => rfl) (fun _ _ => ⟨okCs_vs _ xs, trivial⟩) ⟨s, ⟨rfl, hs⟩, ?_, wkH_refl _⟩ fun l ⟨hl, hll⟩ => ?_
  · (repeat' (first | exact trivial | refine And.intro (by with_reducible rfl) ?_ | (with_reducible exact wkC_refl _) | (with_reducible exact wkCs_refl _) | refine And.intro ?_ ?_))
    all_goals rfl
  rcases List.eq_nil_or_concat l with rfl | ⟨l, c, rfl⟩
  · ((conv => whnf); (repeat ((first | refine BoxN.own ?_ | refine RwN.own ?_ | refine VrN.norm (wrap_i64 (by omega)) ?_ | refine VrN.keep ?_ | refine DrawN.calm (by decide +kernel) ?_ | refine Nd.mk (by decide +kernel) ?_ | refine Nd.mk (by omega) ?_ | (refine Nd.mk ?_ ?_; focus ((repeat' (first | exact trivial | exact wkE_refl _ | refine And.intro ?_ ?_)); done)) | refine RdN.intro _ rfl (by rfl) ?_); (conv => whnf))))
    exact ⟨(), trivial, by rw [← hl]; rfl, wkH_refl _⟩
  · rw [List.concat_eq_append] at *
    have hb : byteAt (bs (l ++ [c])) l.length = (c.toNat : Int) := byteAt_get (by simp)
    rw [List.length_append] at hll
    rw [trimE_snoc] at hl
    ((conv => whnf); (repeat ((first | refine BoxN.own ?_ | refine RwN.own ?_ | refine VrN.norm (wrap_i64 (by omega)) ?_ | refine VrN.keep ?_ | refine DrawN.calm (by decide +kernel) ?_ | refine Nd.mk (by decide +kernel) ?_ | refine Nd.mk (by omega) ?_ | (refine Nd.mk ?_ ?_; focus ((repeat' (first | exact trivial | exact wkE_refl _ | refine And.intro ?_ ?_)); done)) | refine RdN.intro _ rfl (by rfl) ?_); (conv => whnf))))
    rw [bs_size]
    refine brd_dec (fun _ => ?_) (fun h => by simp at h)
    ((conv => whnf); (repeat ((first | refine BoxN.own ?_ | refine RwN.own ?_ | refine VrN.norm (wrap_i64 (by omega)) ?_ | refine VrN.keep ?_ | refine DrawN.calm (by decide +kernel) ?_ | refine Nd.mk (by decide +kernel) ?_ | refine Nd.mk (by omega) ?_ | (refine Nd.mk ?_ ?_; focus ((repeat' (first | exact trivial | exact wkE_refl _ | refine And.intro ?_ ?_)); done)) | refine RdN.intro _ rfl (by rfl) ?_); (conv => whnf))))
    rw [bs_size]
    have e : IntKind.wrap .i64 (((l ++ [c]).length : Int) - 1) = (l.length : Int) := by rw [wrap_i64 (by simp; simp at hll; omega)]; simp
    rw [e]
    refine Nd.mk ⟨by omega, by simp; omega⟩ ?_
    rw [Int.toNat_natCast, hb]
    ((conv => whnf); (repeat ((first | refine BoxN.own ?_ | refine RwN.own ?_ | refine VrN.norm (wrap_i64 (by omega)) ?_ | refine VrN.keep ?_ | refine DrawN.calm (by decide +kernel) ?_ | refine Nd.mk (by decide +kernel) ?_ | refine Nd.mk (by omega) ?_ | (refine Nd.mk ?_ ?_; focus ((repeat' (first | exact trivial | exact wkE_refl _ | refine And.intro ?_ ?_)); done)) | refine RdN.intro _ rfl (by rfl) ?_); (conv => whnf))))
    refine callG (contains_c T xs p hp c) [0] rfl ⟨by show some _ = some (rnE _ _ _); simp [rnE, rnCs_vs], trivial⟩ rfl fun _ _ => ?_
    ((conv => whnf); (repeat ((first | refine BoxN.own ?_ | refine RwN.own ?_ | refine VrN.norm (wrap_i64 (by omega)) ?_ | refine VrN.keep ?_ | refine DrawN.calm (by decide +kernel) ?_ | refine Nd.mk (by decide +kernel) ?_ | refine Nd.mk (by omega) ?_ | (refine Nd.mk ?_ ?_; focus ((repeat' (first | exact trivial | exact wkE_refl _ | refine And.intro ?_ ?_)); done)) | refine RdN.intro _ rfl (by rfl) ?_); (conv => whnf))))
    refine brd_not (brd_intro (fun h => ?_) (fun h => ?_))
    · ((conv => whnf); (repeat ((first | refine BoxN.own ?_ | refine RwN.own ?_ | refine VrN.norm (wrap_i64 (by omega)) ?_ | refine VrN.keep ?_ | refine DrawN.calm (by decide +kernel) ?_ | refine Nd.mk (by decide +kernel) ?_ | refine Nd.mk (by omega) ?_ | (refine Nd.mk ?_ ?_; focus ((repeat' (first | exact trivial | exact wkE_refl _ | refine And.intro ?_ ?_)); done)) | refine RdN.intro _ rfl (by rfl) ?_); (conv => whnf))))
      refine ReadW.sl_h l.length rfl (by kernel_rfl) rfl rfl ⟨by rw [bs_size]; exact e, by simp⟩ ?_
      ((conv => whnf); (repeat ((first | refine BoxN.own ?_ | refine RwN.own ?_ | refine VrN.norm (wrap_i64 (by omega)) ?_ | refine VrN.keep ?_ | refine DrawN.calm (by decide +kernel) ?_ | refine Nd.mk (by decide +kernel) ?_ | refine Nd.mk (by omega) ?_ | (refine Nd.mk ?_ ?_; focus ((repeat' (first | exact trivial | exact wkE_refl _ | refine And.intro ?_ ?_)); done)) | refine RdN.intro _ rfl (by rfl) ?_); (conv => whnf))))
      refine ⟨l, ⟨by rw [← hl, if_pos h], by simp at hll; omega⟩, by simp, ?_, wkH_of_eq (by simp [rnE, rnCs_vs])⟩
      (repeat' (first | exact trivial | refine And.intro (by with_reducible rfl) ?_ | (with_reducible exact wkC_refl _) | (with_reducible exact wkCs_refl _) | refine And.intro ?_ ?_))
      simp
    · ((conv => whnf); (repeat ((first | refine BoxN.own ?_ | refine RwN.own ?_ | refine VrN.norm (wrap_i64 (by omega)) ?_ | refine VrN.keep ?_ | refine DrawN.calm (by decide +kernel) ?_ | refine Nd.mk (by decide +kernel) ?_ | refine Nd.mk (by omega) ?_ | (refine Nd.mk ?_ ?_; focus ((repeat' (first | exact trivial | exact wkE_refl _ | refine And.intro ?_ ?_)); done)) | refine RdN.intro _ rfl (by rfl) ?_); (conv => whnf))))
      exact ⟨(), trivial, by rw [← hl, if_neg (by simp [h])], wkH_of_eq (by simp [rnE, rnCs_vs])⟩
theorem zero_set : (Tryd.prog.info? 125).map (fun i => i.zero) = some (some (.agg (Array.replicate 256 (.bool false)))) := by kernel_rfl
end Go.Proofs.YtjkchonpnocffaaDoor

/-
  AX, twenty-sixth text: maps with numbers as keys that the call makes, fills and asks.
-/
namespace Go.AX

/-- make(map[K]V) -/
theorem EffW.mkMap {P : Program} {o : Oper} {s : List AV} {H : List Ent} {K : AV → List Ent → Prop} {t : TypeId} (ho : o.op = .makeMap t none) (next : ∀ b, K (.c (.v (.map (some b)))) (H ++ [.mp b #[] 0])) : EffW P o s H K := by
  intro ρ S w a hs hr
  have hS := hs.snocG (e := .mp w.heap.size #[] 0) (l := ⟨0, 0⟩) (w' := w.alloc (.map #[] 0)) (ob := .map #[] 0) (fun _ hb => (Option.some.inj hb).symm) rfl rfl rfl rfl (by show (w.heap.push _)[w.heap.size]? = _; simp)
  refine ⟨_, _, next w.heap.size, _, _, _, _, ?_, .inl rfl, hS.1, hS.2, rfl⟩
  unfold execOp
  simp only [ho, Option.map_none, Sem.run_bind, Sem.run_pure, run_makeMap_plain, Result.andThen_ok]
/-- m[k] = v: a new key -/
theorem EffW.putMap {P : Program} {o : Oper} {s : List AV} {H : List Ent} {K : AV → List Ent → Prop} {t kt et : TypeId} {m k x : Operand} {b c : Nat} {es : Array MapEntry} {κ : IntKind} {n : Int} {val : Value} (i : Nat) (ho : o.op = .insert t m k x) (ht : P.underlying t = some (.map kt et)) (hkt : P.underlying kt = some (.int κ))
    (hm : opv s m = .c (.v (.map (some b)))) (hk : opv s k = .c (.v (.int κ n))) (hx : opv s x = .c (.v val)) (hi : nthE H i = some (.mp b es c)) (hf : Instr.findNow (.int κ) (.int κ n) es.toList 0 = some none)
    (next : setEK H i (.mp b (es.push { key := .int κ n, val := val, born := c }) (c + 1)) fun H' => K (.c .any) H') : EffW P o s H K := by
  rw [nthE_eq] at hi
  obtain ⟨_, hk2⟩ := setEK_spec next
  refine Effs.w (fun ρ S w a hs hr => ?_) hk2
  have h1 : a.eval m = .map (some b) := by have := opv_rel hr m; rw [hm] at this; exact this
  have h2 : a.eval k = .int κ n := by have := opv_rel hr k; rw [hk] at this; exact this
  have h3 : a.eval x = val := by have := opv_rel hr x; rw [hx] at this; exact this
  have hb : w.heap[b]? = some (.map es c) := hs.ent i _ hi
  have hbl : b < w.heap.size := (Array.getElem?_eq_some_iff.1 hb).1
  have hc : (Instr.checkKey false 10000 kt (.int κ n)).run P w = .ok () w := MapKept.run_checkKey (k := .int κ n) hkt (by simp [MapKept.IsKey]) false 9999
  have hrun : (Instr.mapUpdate t (.map (some b)) (.int κ n) val).run P w = .ok () { w with heap := w.heap.setIfInBounds b (.map (es.push { key := .int κ n, val := val, born := c }) (c + 1)) } := by
    simp [Instr.mapUpdate, run_underlying ht, MapKept.run_getObj_map hb, hc, MapKept.run_findKey hkt hf, MapKept.run_setObj_map _ hb, Result.andThen]
  have hS := hs.setG (e' := .mp b (es.push { key := .int κ n, val := val, born := c }) (c + 1)) (c := b) (w' := { w with heap := w.heap.setIfInBounds b (.map (es.push { key := .int κ n, val := val, born := c }) (c + 1)) }) hi rfl (by simp) (fun j _ hne => by simp [Ne.symm hne]) rfl rfl rfl (fun _ hc => .inl (Option.some.inj hc).symm) (by show (w.heap.setIfInBounds b _)[b]? = _; simp [hbl])
  refine ⟨.skip, undef, ρ, _, ?_, .inr ⟨rfl, rfl⟩, hS.1, hS.2, trivial⟩
  unfold execOp
  simp only [ho, h1, h2, h3, Sem.run_bind, Sem.run_pure, hrun, Result.andThen_ok]
/-- m[k]: a key that is there -/
theorem ReadW.getMap {P : Program} {o : Oper} {s : List AV} {H : List Ent} {K : AV → Prop} {t kt et : TypeId} {m k : Operand} {b c j : Nat} {es : Array MapEntry} {κ : IntKind} {n : Int} {val : Value} (ho : o.op = .lookup t m k false) (ht : P.underlying t = some (.map kt et)) (hkt : P.underlying kt = some (.int κ))
    (hm : opv s m = .c (.v (.map (some b)))) (hk : opv s k = .c (.v (.int κ n))) (hF : ∀ w, Facts H w → w.heap[b]? = some (.map es c)) (hf : Instr.findNow (.int κ) (.int κ n) es.toList 0 = some (some (j, val))) (h : K (.c (.v val))) : ReadW P o s H K :=
  ReadW.val val (fun cs b e => by rw [ho] at e; cases e) (by rw [ho]; show allPlain s [m, k] = true; simp [allPlain, hm, hk]) (fun w hw => by
    have hb := hF w hw
    have hc : (Instr.checkKey es.isEmpty 10000 kt (.int κ n)).run P w = .ok () w := MapKept.run_checkKey (k := .int κ n) hkt (by simp [MapKept.IsKey]) es.isEmpty 9999
    have hrun : (Instr.lookup t (.map (some b)) (.int κ n) false).run P w = .ok val w := by
      simp [Instr.lookup, run_underlying ht, MapKept.run_getObj_map hb, hc, MapKept.run_findKey hkt hf, Result.andThen]
    unfold execOp
    simp only [ho, plainEv_v hm, plainEv_v hk, Sem.run_bind, hrun, Result.andThen_ok, Sem.run_pure]) h
end Go.AX

/-
  AX, twenty-eighth text: a struct of one's own at a known address: one cell is set (as the model's own functions without body set it).
-/
namespace Go.AX

end Go.AX

/-
  AX, twenty-ninth text: the rest of a slice.
-/
namespace Go.AX
end Go.AX

/-
  AX, twenty-fifth text: rows of bytes that are made.
-/
namespace Go.AX

theorem made_bytes (n : Nat) : (madeCells #[Value.int .u8 0] n).toList = List.replicate n (.int .u8 0) := by
  apply List.ext_getElem?
  intro i
  rw [madeCells, Array.toList_map, List.getElem?_map, Array.toList_range]
  by_cases h : i < n
  · rw [List.getElem?_range h, List.getElem?_replicate, if_pos h]
    simp [Nat.mod_one]
  · rw [List.getElem?_eq_none (by simpa using h), List.getElem?_eq_none (by simpa using h)]
    rfl
/-- make([]byte, n) -/
theorem EffW.mkBytes {P : Program} {o : Oper} {s : List AV} {H : List Ent} {K : AV → List Ent → Prop} {t e : TypeId} {x y : Operand} (n : Nat) (ho : o.op = .makeSlice t x y) (ht : P.underlying t = some (.slice e)) (he : byteB P e = true)
    (hx : opv s x = .c (.v (.int .i64 (n : Int)))) (hy : opv s y = .c (.v (.int .i64 (n : Int)))) (hn : n ≤ 16000000)
    (next : ∀ b, K (.c (.v (.slice (some ⟨b, 0, none⟩) n n))) (H ++ [.app e 1 (List.replicate n (.int .u8 0)) (some ⟨b, 0, none⟩) n n])) : EffW P o s H K := by
  obtain ⟨inf, hi, hz, h1, h2⟩ := byteB_spec he
  intro ρ S w a hs hr
  have hxr := opv_rel hr x
  have hyr := opv_rel hr y
  rw [hx] at hxr; rw [hy] at hyr
  have hxe : a.eval x = .int .i64 (n : Int) := hxr
  have hye : a.eval y = .int .i64 (n : Int) := hyr
  have hrun := run_makeSlice (P := P) (w := w) t e inf (.int .u8 0) ht hi hz .i64 .i64 (n : Int) (n : Int) (by omega) (Int.le_refl _) (by rw [h1]; omega) (by rw [h2]; omega) (by omega)
  simp only [Int.toNat_natCast, h1, Nat.mul_one] at hrun
  have hrow : RowF e 1 n (List.replicate n (.int .u8 0)) w.heap.size n (w.alloc (.cells (madeCells #[Value.int .u8 0] n) e)) :=
    ⟨_, (0, 0), ⟨heap_alloc_new w _, .inl rfl⟩, by simp, Nat.le_refl _, by simp only [maxLen]; omega, by rw [size_madeCells, Nat.mul_one], by rw [made_bytes, Nat.mul_one, List.take_of_length_le (by simp)]⟩
  have hS := hs.newApp (w' := w.alloc (.cells (madeCells #[Value.int .u8 0] n) e)) rfl rfl rfl rfl hrow
  refine ⟨_, _, next w.heap.size, _, _, _, _, ?_, .inl rfl, hS.1, hS.2, rfl⟩
  unfold execOp
  simp only [ho, hxe, hye, Sem.run_bind, Sem.run_pure, hrun, Result.andThen_ok]
  rfl
end Go.AX

/-
  AX, thirtieth text: bytes of a string; own entries that nobody writes any more become facts.
-/
namespace Go.AX

theorem EffW.appTo {P : Program} {o : Oper} {s : List AV} {H : List Ent} {K : AV → List Ent → Prop} {Ty T : TypeId} {x y : Operand} {sz n cap b q i : Nat} {xs ys : List Value} {inf : TypeInfo} (zs : List Value) (sz' : Nat) (ho : o.op = .store Ty x y)
    (hx : opv s x = .c (.v (.pointer (some ⟨b, q, none⟩)))) (hi : nthE H i = some (.app T sz xs (some ⟨b, 0, none⟩) n cap)) (hy : avCells (opv s y) = some (vs ys)) (hone : oneCs (vs ys) = true) (hinf : P.info? Ty = some inf) (hlen : ys.length = inf.size)
    (hq : q + ys.length ≤ n * sz) (hz : xs.take q ++ ys ++ xs.drop (q + ys.length) = zs) (hs : sz = sz') (hk : setEK H i (.app T sz' zs (some ⟨b, 0, none⟩) n cap) fun H' => K (.c .any) H') : EffW P o s H K := by
  subst hz; subst hs
  exact EffW.app ho hx hi hy hone hinf hlen hq hk
theorem put_set {xs : List Value} {q : Nat} (v : Value) (h : q < xs.length) : xs.take q ++ [v] ++ xs.drop (q + [v].length) = xs.set q v := by
  rw [List.set_eq_take_append_cons_drop, if_pos h]
  simp
/-- The arguments in another spelling. -/
theorem SpecH.args {P : Program} {f : FuncId} {args args' : List AV} {H : List Ent} {K : Out → List Ent → Prop} (e : args = args') (h : SpecH P f args' H K) : SpecH P f args H K := e ▸ h
theorem plains_vs : ∀ xs : List Value, plains (vs xs) = some xs
  | [] => rfl
  | _ :: xs => by simp [vs, plains, plains_vs xs]
/-- []byte(s) -/
theorem EffW.bytesOf {P : Program} {o : Oper} {s : List AV} {H : List Ent} {K : AV → List Ent → Prop} {src dst e : TypeId} {x : Operand} (l : List UInt8) (ho : o.op = .convert src dst x) (hs : P.underlying src = some .string) (hd : P.underlying dst = some (.slice e)) (he : P.underlying e = some (.int .u8))
    (hx : opv s x = .c (.v (.string (bs l)))) (hl : l.length ≤ 140737488355328) (next : ∀ b cap : Nat, l.length ≤ cap → cap ≤ maxLen → K (.c (.v (.slice (some ⟨b, 0, none⟩) l.length cap))) (H ++ [.app e 1 (u8s l) (some ⟨b, 0, none⟩) l.length cap])) : EffW P o s H K := by
  intro ρ S w ac hsat hr
  have hxr := opv_rel hr x
  rw [hx] at hxr
  have hxe : ac.eval x = .string (bs l) := hxr
  have hrun := run_bytes_of_string (P := P) w src dst e (bs l) hs hd he
  rw [bs_size] at hrun
  have hge := grownCap_ge w l.length 0 e
  have hgm := grownCap_le_maxLen w l.length 0 e (by simp only [maxLen]; omega)
  generalize grownCap w l.length 0 e = cap at hrun hge hgm
  have hsz : (bytesRow (bs l) cap).size = cap := by
    have e1 : (bs l).data.size = l.length := by simp [bs]
    simp only [bytesRow, Array.size_append, Array.size_map, Array.size_replicate, bs_size, e1]
    omega
  have hrow : RowF e 1 l.length (u8s l) w.heap.size cap (w.drew.alloc (.cells (bytesRow (bs l) cap) e ((bytesRow (bs l) cap).size, (bytesRow (bs l) cap).size + 1))) := by
    refine ⟨_, _, ⟨heap_alloc_new w.drew _, .inr (Nat.le_refl _)⟩, by simp [u8s_len], hge, hgm, by rw [hsz, Nat.mul_one], ?_⟩
    rw [Nat.mul_one]
    unfold bytesRow
    rw [Array.toList_append, List.take_append_of_le_length (by simp [bs]), List.take_of_length_le (by simp [bs])]
    simp [bs, u8s]
  have hS := hsat.newApp (w' := w.drew.alloc (.cells (bytesRow (bs l) cap) e ((bytesRow (bs l) cap).size, (bytesRow (bs l) cap).size + 1))) rfl rfl rfl rfl hrow
  refine ⟨_, _, next w.heap.size cap hge hgm, _, _, _, _, ?_, .inl rfl, hS.1, hS.2, rfl⟩
  unfold execOp
  simp only [ho, hxe, Sem.run_bind, hrun, Result.andThen_ok, Sem.run_pure]

end Go.AX

/-
  AX, thirty-first text: a key that a map does not have.
-/
namespace Go.AX
/-- m[k]: a key that is not there -/
theorem ReadW.noMap {P : Program} {o : Oper} {s : List AV} {H : List Ent} {K : AV → Prop} {t kt et : TypeId} {m k : Operand} {b c : Nat} {es : Array MapEntry} {κ : IntKind} {n : Int} {inf : TypeInfo} {z : Value} (ho : o.op = .lookup t m k false) (ht : P.underlying t = some (.map kt et)) (hkt : P.underlying kt = some (.int κ))
    (hi : P.info? et = some inf) (hz : inf.zero = some z) (hm : opv s m = .c (.v (.map (some b)))) (hk : opv s k = .c (.v (.int κ n))) (hF : ∀ w, Facts H w → w.heap[b]? = some (.map es c)) (hf : Instr.findNow (.int κ) (.int κ n) es.toList 0 = some none) (h : K (.c (.v z))) : ReadW P o s H K :=
  ReadW.val z (fun cs b e => by rw [ho] at e; cases e) (by rw [ho]; show allPlain s [m, k] = true; simp [allPlain, hm, hk]) (fun w hw => by
    have hb := hF w hw
    have hc : (Instr.checkKey es.isEmpty 10000 kt (.int κ n)).run P w = .ok () w := MapKept.run_checkKey (k := .int κ n) hkt (by simp [MapKept.IsKey]) es.isEmpty 9999
    have hrun : (Instr.lookup t (.map (some b)) (.int κ n) false).run P w = .ok z w := by
      simp [Instr.lookup, run_underlying ht, MapKept.run_getObj_map hb, hc, MapKept.run_findKey hkt hf, Result.andThen, zeroValue, typeInfo, hi, hz]
    unfold execOp
    simp only [ho, plainEv_v hm, plainEv_v hk, Sem.run_bind, hrun, Result.andThen_ok, Sem.run_pure]) h
/-! ### Parts of strings, where memory is not looked at -/
theorem BlindW.val {P : Program} {o : Oper} {s : List AV} {K : AV → Prop} (x : Value) (hp : allPlain s o.op.operands.toList = true) (hrun : ∀ w, (execOp (plainEv s) o).run P w = .ok (.value x) w) (h : K (.c (.v x))) : ∃ x, BlindW P o s K x := ⟨x, hp, hrun, h⟩
/-- s[i:] -/
theorem BlindW.sl_l {P : Program} {o : Oper} {s : List AV} {K : AV → Prop} {t : TypeId} {x y : Operand} {b : List UInt8} {k : IntKind} {i : Int} (n : Nat) (ho : o.op = .slice t x (some y) none none) (hu : P.underlying t = some .string) (hx : opv s x = .c (.v (.string (bs b)))) (hy : opv s y = .c (.v (.int k i)))
    (h : i = (n : Int) ∧ n ≤ b.length) (hk : K (.c (.v (.string (bs (b.drop n)))))) : ∃ x, BlindW P o s K x :=
  BlindW.val (.string (bs (b.drop n))) (by rw [ho]; show allPlain s [x, y] = true; simp [allPlain, hx, hy])
    (fun w => run_op_slice ho (by
      simp only [Option.map, plainEv_v hx, plainEv_v hy]
      rw [run_sliceAt_string w t _ _ _ _ hu, run_slice_string_l w t (bs b) hu k i (by omega) (by rw [bs_size]; omega), bs_size, show i.toNat = n by omega, bs_drop])) hk
/-- s[1:] -/
theorem BlindW.tl {P : Program} {o : Oper} {s : List AV} {K : AV → Prop} {t : TypeId} {x y : Operand} {c : UInt8} {r : List UInt8} {k : IntKind} (ho : o.op = .slice t x (some y) none none) (hu : P.underlying t = some .string) (hx : opv s x = .c (.v (.string (bs (c :: r))))) (hy : opv s y = .c (.v (.int k 1)))
    (hk : K (.c (.v (.string (bs r))))) : ∃ x, BlindW P o s K x := BlindW.sl_l 1 ho hu hx hy ⟨rfl, by simp⟩ hk
theorem ReadW.tl {P : Program} {o : Oper} {s : List AV} {H : List Ent} {K : AV → Prop} {t : TypeId} {x y : Operand} {c : UInt8} {r : List UInt8} {k : IntKind} (ho : o.op = .slice t x (some y) none none) (hu : P.underlying t = some .string) (hx : opv s x = .c (.v (.string (bs (c :: r))))) (hy : opv s y = .c (.v (.int k 1)))
    (hk : K (.c (.v (.string (bs r))))) : ReadW P o s H K := ReadW.sl_l 1 ho hu hx hy ⟨rfl, by simp⟩ hk
/-- s[:j] -/
theorem BlindW.sl_h {P : Program} {o : Oper} {s : List AV} {K : AV → Prop} {t : TypeId} {x y : Operand} {b : List UInt8} {k : IntKind} {i : Int} (n : Nat) (ho : o.op = .slice t x none (some y) none) (hu : P.underlying t = some .string) (hx : opv s x = .c (.v (.string (bs b)))) (hy : opv s y = .c (.v (.int k i)))
    (h : i = (n : Int) ∧ n ≤ b.length) (hk : K (.c (.v (.string (bs (b.take n)))))) : ∃ x, BlindW P o s K x :=
  BlindW.val (.string (bs (b.take n))) (by rw [ho]; show allPlain s [x, y] = true; simp [allPlain, hx, hy])
    (fun w => run_op_slice ho (by
      simp only [Option.map, plainEv_v hx, plainEv_v hy]
      rw [run_sliceAt_string w t _ _ _ _ hu, run_slice_string_h w t (bs b) hu k i (by omega) (by rw [bs_size]; omega), show i.toNat = n by omega, bs_take])) hk
end Go.AX

/-
  Plain Lean: the directives of a form (no program in sight).
-/
namespace Go.Pack
abbrev B := List UInt8

/-- A directive: its letter, greatest byte first, its count (-1: all, -2: none is written). -/
structure Dir where
  letter : UInt8
  big : Bool
  count : Int
deriving DecidableEq, Repr
structure Item where
  isText : Bool
  int : Int
  text : B
deriving DecidableEq, Repr

def letters : B := [67, 99, 83, 115, 76, 108, 81, 113, 110, 78, 119, 85, 97, 65, 90, 72, 120, 64]
def bigs : B := [83, 115, 76, 108, 81, 113]
def dig (c : UInt8) : Bool := 48 ≤ c && c ≤ 57
def num (ds : B) : Nat := ds.foldl (fun n c => n * 10 + (c.toNat - 48)) 0
/-- The digits are a count. -/
def fine (c : UInt8) (ds : B) : Bool := num ds ≤ 1000 && (ds.head? != some 48 || c == 64 && ds == [48])
/-- What stands behind a letter and its sign: the count, the rest; none: malformed. -/
def cnt (c : UInt8) (r : B) : Option (Int × B) :=
  if r.head? == some 42 then if c == 120 || c == 64 then none else some (-1, r.tail)
  else if (r.takeWhile dig).isEmpty then some (-2, r)
  else if fine c (r.takeWhile dig) then some ((num (r.takeWhile dig) : Int), r.dropWhile dig) else none
/-- A directive ahead of a text. -/
def one (c : UInt8) (r : B) : Option (Dir × B) :=
  if letters.contains c then
    if r.head? == some 62 then
      if bigs.contains c then (cnt c r.tail).map fun x => (⟨c, true, x.1⟩, x.2) else none
    else (cnt c r).map fun x => (⟨c, false, x.1⟩, x.2)
  else none
theorem cnt_len {c : UInt8} {r : B} {x : Int × B} (h : cnt c r = some x) : x.2.length ≤ r.length := by
  unfold cnt at h
  split at h
  · split at h
    · cases h
    · cases h; simp
  split at h
  · cases h; exact Nat.le_refl _
  split at h
  · cases h
    exact (List.dropWhile_sublist _).length_le
  · cases h
theorem one_len {c : UInt8} {r : B} {x : Dir × B} (h : one c r = some x) : x.2.length ≤ r.length := by
  unfold one at h
  split at h
  · split at h
    · split at h
      · cases hc : cnt c r.tail with
        | none => rw [hc] at h; cases h
        | some y =>
          rw [hc] at h; cases h
          have := cnt_len hc
          simp at this ⊢; omega
      · cases h
    · cases hc : cnt c r with
      | none => rw [hc] at h; cases h
      | some y => rw [hc] at h; cases h; exact cnt_len hc
  · cases h
/-- All directives of a form. -/
def dirsF : Nat → B → Option (List Dir)
  | 0, _ => none
  | _ + 1, [] => some []
  | f + 1, c :: r => if c == 32 then dirsF f r else
    match one c r with
    | none => none
    | some (d, r') => (dirsF f r').map (d :: ·)
def dirs (s : B) : Option (List Dir) := dirsF (s.length + 1) s
theorem dirsF_fuel : ∀ (n f g : Nat) (s : B), s.length ≤ n → s.length < f → s.length < g → dirsF f s = dirsF g s
  | _, 0, _, _, _, h, _ => absurd h (Nat.not_lt_zero _)
  | _, _ + 1, 0, _, _, _, h => absurd h (Nat.not_lt_zero _)
  | _, _ + 1, _ + 1, [], _, _, _ => rfl
  | 0, _ + 1, _ + 1, _ :: _, h, _, _ => by simp at h
  | n + 1, f + 1, g + 1, c :: r, hn, hf, hg => by
    simp only [List.length_cons] at hn hf hg
    unfold dirsF
    split
    · exact dirsF_fuel n f g r (by omega) (by omega) (by omega)
    · cases ho : one c r with
      | none => rfl
      | some x =>
        have := one_len ho
        simp only
        rw [dirsF_fuel n f g x.2 (by omega) (by omega) (by omega)]
theorem dirs_nil : dirs [] = some [] := rfl
theorem dirs_space (r : B) : dirs (32 :: r) = dirs r := by
  show dirsF (r.length + 1 + 1) (32 :: r) = _
  unfold dirsF
  rw [if_pos (show ((32 : UInt8) == 32) = true from rfl)]
  exact dirsF_fuel _ _ _ r (Nat.le_refl _) (by omega) (by omega)
theorem dirs_cons {c : UInt8} (h : c ≠ 32) (r : B) : dirs (c :: r) = match one c r with | none => none | some (d, r') => (dirs r').map (d :: ·) := by
  show dirsF (r.length + 1 + 1) (c :: r) = _
  conv => lhs; unfold dirsF
  rw [if_neg (by simpa using h)]
  cases ho : one c r with
  | none => rfl
  | some x =>
    have := one_len ho
    simp only
    unfold dirs
    rw [dirsF_fuel r.length (r.length + 1) (x.2.length + 1) x.2 (by omega) (by omega) (by omega)]
theorem dirs_drop : ∀ s : B, dirs (s.dropWhile (· == 32)) = dirs s
  | [] => rfl
  | c :: r => by
    by_cases h : c = 32
    · subst h
      rw [dirs_space]
      exact dirs_drop r
    · rw [List.dropWhile_cons_of_neg (by simpa using h)]
/-- A form that is not malformed. -/
def forms (s : B) : Option (List Dir) := match dirs s with | some l => if l.length ≤ 50 then some l else none | none => none
end Go.Pack

/-
  Plain Lean: what is packed, and read (no program in sight).
-/
namespace Go.Pack

def isStr (c : UInt8) : Bool := c == 97 || c == 65 || c == 90 || c == 72
def isPl (c : UInt8) : Bool := c == 120 || c == 64
def sz (c : UInt8) : Nat :=
  if c == 67 || c == 99 then 1 else if c == 83 || c == 115 || c == 110 then 2 else if c == 76 || c == 108 || c == 78 then 4 else if c == 81 || c == 113 then 8 else 0
def sg (c : UInt8) : Bool := c == 99 || c == 115 || c == 108 || c == 113
def hi (d : Dir) : Bool := d.big || d.letter == 110 || d.letter == 78

/-- A number of a fixed size fits. -/
def fit (c : UInt8) (n : Int) : Bool :=
  if c == 113 then true else if c == 81 then decide (0 ≤ n)
  else if sg c then decide (-(2 : Int) ^ (8 * sz c - 1) ≤ n) && decide (n < 2 ^ (8 * sz c - 1)) else decide (0 ≤ n) && decide (n < 2 ^ (8 * sz c))
/-- The least byte first. -/
def le : Nat → Int → B
  | 0, _ => []
  | k + 1, n => UInt8.ofNat (n % 256).toNat :: le k (n / 256)
/-- Groups of 7 bits, the least first. -/
def sevR : Nat → Nat → B
  | 0, _ => []
  | f + 1, n => if n = 0 then [] else UInt8.ofNat (n % 128 + 128) :: sevR f (n / 128)
def sevens (n : Nat) : B := (UInt8.ofNat (n % 128) :: sevR 10 (n / 128)).reverse
def rune (n : Int) : Bool := decide (0 ≤ n) && decide (n ≤ 1114111) && (decide (n < 55296) || decide (57343 < n))
def utf (n : Nat) : B :=
  if n < 128 then [UInt8.ofNat n] else if n < 2048 then [UInt8.ofNat (192 + n / 64), UInt8.ofNat (128 + n % 64)]
  else if n < 65536 then [UInt8.ofNat (224 + n / 4096), UInt8.ofNat (128 + n / 64 % 64), UInt8.ofNat (128 + n % 64)]
  else [UInt8.ofNat (240 + n / 262144), UInt8.ofNat (128 + n / 4096 % 64), UInt8.ofNat (128 + n / 64 % 64), UInt8.ofNat (128 + n % 64)]
def numS (d : Dir) (n : Int) : Except Int B :=
  if d.letter == 119 then if n < 0 then .error 5 else .ok (sevens n.toNat)
  else if d.letter == 85 then if rune n then .ok (utf n.toNat) else .error 5
  else if fit d.letter n then .ok (if hi d then (le (sz d.letter) n).reverse else le (sz d.letter) n) else .error 5

/-- The value of a hex digit. -/
def hexV (c : UInt8) : Option Nat := if 48 ≤ c && c ≤ 57 then some (c.toNat - 48) else if 97 ≤ c && c ≤ 102 then some (c.toNat - 87) else none
def hexP : B → Option B
  | a :: b :: r => match hexV a, hexV b, hexP r with
    | some x, some y, some l => some (UInt8.ofNat (16 * x + y) :: l)
    | _, _, _ => none
  | _ => some []
/-- n hex digits of a text, filled with 0. -/
def hexT (n : Nat) (s : B) : B := s.take n ++ List.replicate (n - s.length + n % 2) 48
def hexS (n : Nat) (s : B) : Except Int B := match hexP (hexT n s) with | some l => .ok l | none => .error 1
def cntS (d : Dir) (all : Nat) : Nat := if d.count = -2 then 1 else if d.count = -1 then all else d.count.toNat
def textS (d : Dir) (s : B) : Except Int B :=
  if d.letter == 72 then hexS (cntS d s.length) s
  else if d.count = -1 then .ok (if d.letter == 90 then s ++ [0] else s)
  else
    let n := cntS d 0
    let l := s.take n ++ List.replicate (n - s.length) (if d.letter == 65 then 32 else 0)
    .ok (if d.letter == 90 && decide (n < s.length) then l.set (n - 1) 0 else l)
/-- One item, or a place, written behind what is there. -/
def oneS (d : Dir) (items : List Item) (out : B) (used : Nat) : Except Int (B × Nat) :=
  let fin := fun (o l : B) (u : Nat) => if o.length + l.length > 100000 then Except.error 5 else .ok (o ++ l, u)
  if d.letter == 120 then fin out (List.replicate (max 1 d.count).toNat 0) used
  else if d.letter == 64 then fin (out.take (max 0 d.count).toNat) (List.replicate ((max 0 d.count).toNat - (out.take (max 0 d.count).toNat).length) 0) used
  else match items[used]? with
    | none => .error 14
    | some x => if x.isText != isStr d.letter then .error 1
      else match if isStr d.letter then textS d x.text else numS d x.int with
        | .error e => .error e
        | .ok l => fin out l (used + 1)
def timesS (d : Dir) (items : List Item) : Nat → B → Nat → Except Int (B × Nat)
  | 0, out, used => .ok (out, used)
  | k + 1, out, used => match oneS d items out used with
    | .error e => .error e
    | .ok (o, u) => timesS d items k o u
def times (d : Dir) (left : Nat) : Nat := if isStr d.letter || isPl d.letter then 1 else cntS d left
def runS (items : List Item) : List Dir → B → Nat → Except Int (B × Nat)
  | [], out, used => .ok (out, used)
  | d :: l, out, used => match timesS d items (times d (items.length - used)) out used with
    | .error e => .error e
    | .ok (o, u) => runS items l o u
/-- Pack and Used: the bytes, how many items, the error. -/
def packS (form : B) (items : List Item) : Except Int (B × Nat) := match forms form with | none => .error 4 | some l => runS items l [] 0

/-! ### Reading -/
/-- A number in groups of 7 bits: the number, how many bytes. -/
def grp : Nat → Nat → Nat → B → Except Int (Int × Nat)
  | _, _, _, [] => .error 14
  | 0, _, _, _ :: _ => .error 5
  | f + 1, n, i, c :: r => if i = 0 ∧ c = 128 then .error 5 else if c < 128 then .ok (n * 128 + c.toNat % 128, i + 1) else grp f (n * 128 + c.toNat % 128) (i + 1) r
def beN (l : B) : Nat := l.foldl (fun n c => n * 256 + c.toNat) 0
/-- A number of a fixed size. -/
def whl (d : Dir) (l : B) : Except Int Int :=
  let u := beN (if hi d then l else l.reverse)
  if sg d.letter then .ok (if u < 2 ^ (8 * l.length - 1) then (u : Int) else (u : Int) - 2 ^ (8 * l.length)) else if u < 2 ^ 63 then .ok (u : Int) else .error 5
/-- A character in utf-8: its code, how many bytes; none: broken. -/
def cont (c : UInt8) : Bool := 128 ≤ c && c < 192
def runeD : B → Option (Nat × Nat)
  | [] => none
  | a :: r =>
    if a < 128 then some (a.toNat, 1)
    else if 192 ≤ a && a < 224 then match r with
      | b :: _ => let n := (a.toNat - 192) * 64 + (b.toNat - 128); if cont b && 128 ≤ n then some (n, 2) else none
      | _ => none
    else if 224 ≤ a && a < 240 then match r with
      | b :: c :: _ => let n := ((a.toNat - 224) * 64 + (b.toNat - 128)) * 64 + (c.toNat - 128); if cont b && cont c && 2048 ≤ n && (n < 55296 || 57343 < n) then some (n, 3) else none
      | _ => none
    else if 240 ≤ a && a < 248 then match r with
      | b :: c :: d :: _ => let n := (((a.toNat - 240) * 64 + (b.toNat - 128)) * 64 + (c.toNat - 128)) * 64 + (d.toNat - 128); if cont b && cont c && cont d && 65536 ≤ n && n ≤ 1114111 then some (n, 4) else none
      | _ => none
    else none
def rdNum (d : Dir) (s : B) : Except Int (Int × Nat) :=
  if d.letter == 119 then grp 9 0 0 s
  else if d.letter == 85 then if s.isEmpty then .error 14 else match runeD s with | some (n, k) => .ok ((n : Int), k) | none => .error 1
  else if s.length < sz d.letter then .error 14 else match whl d (s.take (sz d.letter)) with | .ok n => .ok (n, sz d.letter) | .error e => .error e
end Go.Pack

/-
  Plain Lean: Unpack (no program in sight).
-/
namespace Go.Pack

def hexC (n : Nat) : UInt8 := UInt8.ofNat (if n < 10 then 48 + n else 87 + n)
def hex : B → B
  | [] => []
  | c :: r => hexC (c.toNat / 16) :: hexC (c.toNat % 16) :: hex r
def trimA (s : B) : B := (s.reverse.dropWhile fun c => c == 32 || c == 0).reverse
/-- A text, and how many bytes are read. -/
def cutS (d : Dir) (s : B) : B × Nat :=
  if d.letter == 72 then
    let b := s.take ((cntS d (2 * s.length) + 1) / 2)
    ((hex b).take (cntS d (2 * s.length)), b.length)
  else if d.count = -1 ∧ d.letter == 90 ∧ s.contains 0 then (s.takeWhile (· != 0), (s.takeWhile (· != 0)).length + 1)
  else
    let b := s.take (cntS d s.length)
    (if d.letter == 65 then trimA b else if d.letter == 90 then b.takeWhile (· != 0) else b, b.length)
/-- Numbers as long as there are bytes. -/
def allN (d : Dir) : Nat → B → List Int → Except Int (List Int × B)
  | 0, s, out => .ok (out, s)
  | f + 1, s, out => if s.length < max 1 (sz d.letter) then .ok (out, s) else match rdNum d s with
    | .error e => .error e
    | .ok (n, k) => allN d f (s.drop k) (out ++ [n])
def cntN (d : Dir) : Nat → B → List Int → Except Int (List Int × B)
  | 0, s, out => .ok (out, s)
  | f + 1, s, out => match rdNum d s with
    | .error e => .error e
    | .ok (n, k) => cntN d f (s.drop k) (out ++ [n])
def numsS (d : Dir) (s : B) : Except Int (List Int × B) := if d.count = -1 then allN d (s.length + 1) s [] else cntN d (cntS d 0) s []
def intI (n : Int) : Item := ⟨false, n, []⟩
def unS (whole : B) : List Dir → B → List Item → Except Int (List Item)
  | [], _, out => .ok out
  | d :: l, s, out =>
    if d.letter == 64 then if d.count > whole.length then .error 14 else unS whole l (whole.drop (max 0 d.count).toNat) out
    else if d.letter == 120 then if (max 1 d.count).toNat > s.length then .error 14 else unS whole l (s.drop (max 1 d.count).toNat) out
    else if isStr d.letter then unS whole l (s.drop (cutS d s).2) (out ++ [⟨true, 0, (cutS d s).1⟩])
    else match numsS d s with
      | .error e => .error e
      | .ok (ns, r) => unS whole l r (out ++ ns.map intI)
def unpackS (form s : B) : Except Int (List Item) := match forms form with | none => .error 4 | some l => unS s l s []
end Go.Pack

/-
  Contracts: bytes taken away ahead; counts.
-/
namespace Go.Proofs.YtjkchonpnocffaaDoor
open Go.AX Go.RowKit Go.Pack
set_option maxRecDepth 20000

theorem trimLeftB_eq (c : UInt8) (s : List UInt8) : Lib.trimLeftB s c = s.dropWhile (· == c) := rfl
theorem TrimSp_c (s : List UInt8) : ∀ H, SpecH Tryd.prog 49 (pvs [.string (bs s), .string (bs [32])]) H (Ret (.string (bs (s.dropWhile (· == 32)))) H) := fun H =>
  SpecH.rawP (R := fun r => r = .string (bs (s.dropWhile (· == 32)))) (callOk Tryd.func49 (by kernel_rfl) rfl)
    (fun w _ => (Tryd.strings_TrimLeft_one (bs s) 32 (by decide) w).mono fun e w' ⟨he, hw⟩ => ⟨_, he, by rw [bs_list, trimLeftB_eq]; rfl, by subst hw; exact Below.refl _ _⟩) fun r hr => by subst hr; exact ⟨rfl, rfl⟩
def digL : List UInt8 := [48, 49, 50, 51, 52, 53, 54, 55, 56, 57]
def digTab : List Value := (List.range 256).map fun i => .bool (decide (48 ≤ i) && decide (i ≤ 57))
theorem dig_eq (c : UInt8) : dig c = (decide (48 ≤ c.toNat) && decide (c.toNat ≤ 57)) := rfl
theorem digTab_ok : TabB digTab dig := fun c => by
  have hc := c.toNat_lt
  rw [dig_eq]
  unfold digTab
  rw [List.getElem?_map, List.getElem?_range (by omega)]
  rfl
theorem setCells_dig : (Lib.setCells digL).toList = digTab := by kernel_rfl
theorem setCells_dig' : Lib.setCells digL = digTab.toArray := by apply Array.ext'; rw [setCells_dig]
theorem makeDig_c : ∀ H, SpecH Tryd.prog 74 (pvs [.string (bs digL)]) H (Ret (.tuple #[.agg digTab.toArray, .bool true]) H) := fun H =>
  SpecH.rawP (R := fun r => r = .tuple #[.agg digTab.toArray, .bool true]) (callOk Tryd.func74 (by kernel_rfl) rfl)
    (fun w _ => (Tryd.strings_makeASCIISet (fun w => by obtain ⟨i, hi, hz⟩ := Option.map_eq_some_iff.1 zero_set; exact run_zeroValue hi hz w) (bs digL) w (by decide) (by
      intro j b hj
      rw [bs_list] at hj
      have hall : ∀ x ∈ digL, x.toNat < 128 := by decide
      exact hall b (List.mem_of_getElem? hj))).mono fun e w' ⟨he, hw⟩ => ⟨_, he, by rw [bs_list, setCells_dig'], by subst hw; exact (Below.refl _ w).alloc (Nat.le_refl _) _⟩) fun r hr => by subst hr; exact ⟨rfl, rfl⟩
theorem TrimDig_c (s : List UInt8) : ∀ H, SpecH Tryd.prog 49 (pvs [.string (bs s), .string (bs digL)]) H (Ret (.string (bs (s.dropWhile dig))) H) := by
  refine pureC hm Tryd.func49 (by kernel_rfl) rfl rfl ?_
  ((conv => whnf); (repeat ((first | refine BoxN.own ?_ | refine RwN.own ?_ | refine VrN.norm (wrap_i64 (by omega)) ?_ | refine VrN.keep ?_ | refine DrawN.calm (by decide +kernel) ?_ | refine Nd.mk (by decide +kernel) ?_ | refine Nd.mk (by omega) ?_ | (refine Nd.mk ?_ ?_; focus ((repeat' (first | exact trivial | exact wkE_refl _ | refine And.intro ?_ ?_)); done)) | refine RdN.intro _ rfl (by rfl) ?_); (conv => whnf))))
  rw [bs_list]
  refine brd_intro (fun h => ?_) (fun h => ?_)
  · have : s = [] := by simpa using h
    subst this
    ((conv => whnf); (repeat ((first | refine BoxN.own ?_ | refine RwN.own ?_ | refine VrN.norm (wrap_i64 (by omega)) ?_ | refine VrN.keep ?_ | refine DrawN.calm (by decide +kernel) ?_ | refine Nd.mk (by decide +kernel) ?_ | refine Nd.mk (by omega) ?_ | (refine Nd.mk ?_ ?_; focus ((repeat' (first | exact trivial | exact wkE_refl _ | refine And.intro ?_ ?_)); done)) | refine RdN.intro _ rfl (by rfl) ?_); (conv => whnf))))
    rfl
  · ((conv => whnf); (repeat ((first | refine BoxN.own ?_ | refine RwN.own ?_ | refine VrN.norm (wrap_i64 (by omega)) ?_ | refine VrN.keep ?_ | refine DrawN.calm (by decide +kernel) ?_ | refine Nd.mk (by decide +kernel) ?_ | refine Nd.mk (by omega) ?_ | (refine Nd.mk ?_ ?_; focus ((repeat' (first | exact trivial | exact wkE_refl _ | refine And.intro ?_ ?_)); done)) | refine RdN.intro _ rfl (by rfl) ?_); (conv => whnf))))
    refine call1 (makeDig_c _) ?_
    ((conv => whnf); (repeat ((first | refine BoxN.own ?_ | refine RwN.own ?_ | refine VrN.norm (wrap_i64 (by omega)) ?_ | refine VrN.keep ?_ | refine DrawN.calm (by decide +kernel) ?_ | refine Nd.mk (by decide +kernel) ?_ | refine Nd.mk (by omega) ?_ | (refine Nd.mk ?_ ?_; focus ((repeat' (first | exact trivial | exact wkE_refl _ | refine And.intro ?_ ?_)); done)) | refine RdN.intro _ rfl (by rfl) ?_); (conv => whnf))))
    refine callG (trimLeftASCII_c _ digTab dig digTab_ok s) [0] rfl ⟨rfl, trivial⟩ rfl fun _ _ => ?_
    ((conv => whnf); (repeat ((first | refine BoxN.own ?_ | refine RwN.own ?_ | refine VrN.norm (wrap_i64 (by omega)) ?_ | refine VrN.keep ?_ | refine DrawN.calm (by decide +kernel) ?_ | refine Nd.mk (by decide +kernel) ?_ | refine Nd.mk (by omega) ?_ | (refine Nd.mk ?_ ?_; focus ((repeat' (first | exact trivial | exact wkE_refl _ | refine And.intro ?_ ?_)); done)) | refine RdN.intro _ rfl (by rfl) ?_); (conv => whnf))))
theorem index_lt (l : List UInt8) (c : UInt8) : Lib.indexByte l c < 0 ↔ l.contains c = false := by
  induction l with
  | nil => simp [Lib.indexByte]
  | cons b l ih =>
    have hge := Lib.indexByte_ge l c
    unfold Lib.indexByte
    cases hb : b == c with
    | true =>
      have hbc : b = c := by simpa using hb
      simp [hbc]
    | false =>
      have hbc : (c == b) = false := by
        have : ¬ b = c := by simpa using hb
        simpa using fun h => this h.symm
      rw [List.contains_cons, hbc, Bool.false_or, ← ih]
      simp only [Bool.false_eq_true, if_false]
      split
      · rename_i h; have : Lib.indexByte l c = -1 := by simpa using h
        omega
      · rename_i h; have : ¬ Lib.indexByte l c = -1 := by simpa using h
        omega
def numSat (ds : List UInt8) : Nat := min (num ds) 1001
theorem num_snoc (ds : List UInt8) (c : UInt8) : num (ds ++ [c]) = num ds * 10 + (c.toNat - 48) := by simp [num]
theorem numSat_snoc (ds : List UInt8) (c : UInt8) : numSat (ds ++ [c]) = min (numSat ds * 10 + (c.toNat - 48)) 1001 := by
  unfold numSat
  rw [num_snoc]
  omega
theorem count_c (ds : List UInt8) (z : Bool) (hd : ∀ c ∈ ds, dig c = true) (hn : ds ≠ []) (hl : ds.length ≤ 1000000) : ∀ H, SpecH Tryd.prog 52 (pvs [.string (bs ds), .bool z]) H (Ret (.tuple #[.int .i64 (numSat ds : Nat), .bool (decide (numSat ds ≤ 1000) && (ds.head? != some 48 || z && ds == [48]))]) H) := by
  refine pureC hm Tryd.func52 (by kernel_rfl) rfl rfl ?_
  ((conv => whnf); (repeat ((first | refine BoxN.own ?_ | refine RwN.own ?_ | refine VrN.norm (wrap_i64 (by omega)) ?_ | refine VrN.keep ?_ | refine DrawN.calm (by decide +kernel) ?_ | refine Nd.mk (by decide +kernel) ?_ | refine Nd.mk (by omega) ?_ | (refine Nd.mk ?_ ?_; focus ((repeat' (first | exact trivial | exact wkE_refl _ | refine And.intro ?_ ?_)); done)) | refine RdN.intro _ rfl (by rfl) ?_); (conv => whnf))))
  refine EffW.bytesOf ds rfl Tryd.underlying9 Tryd.underlying74 Tryd.underlying5 rfl (by omega) fun b cap _ _ => ?_
  ((conv => whnf); (repeat ((first | refine BoxN.own ?_ | refine RwN.own ?_ | refine VrN.norm (wrap_i64 (by omega)) ?_ | refine VrN.keep ?_ | refine DrawN.calm (by decide +kernel) ?_ | refine Nd.mk (by decide +kernel) ?_ | refine Nd.mk (by omega) ?_ | (refine Nd.mk ?_ ?_; focus ((repeat' (first | exact trivial | exact wkE_refl _ | refine And.intro ?_ ?_)); done)) | refine RdN.intro _ rfl (by rfl) ?_); (conv => whnf))))
  refine loopS Nat (fun i => i ≤ ds.length) (fun i => mkS Tryd.f52.ntmps 0 [(0, .c (.v (.string (bs ds)))), (1, .c (.v (.bool z))), (6, .c (.v (.int .i64 (numSat (ds.take i) : Nat)))), (10, .c (.v (.slice (some ⟨b, 0, none⟩) ds.length cap))), (11, .c (.v (.int .i64 (ds.length : Int)))), (12, .c (.v (.int .i64 (i : Int))))]) (fun i => ds.length - i) rfl (fun _ => rfl) 0 (Nat.zero_le _) ?_ fun i hi => ?_
  · (repeat' (first | exact trivial | refine And.intro (by with_reducible rfl) ?_ | (with_reducible exact wkC_refl _) | (with_reducible exact wkCs_refl _) | refine And.intro ?_ ?_))
    all_goals rfl
  ((conv => whnf); (repeat ((first | refine BoxN.own ?_ | refine RwN.own ?_ | refine VrN.norm (wrap_i64 (by omega)) ?_ | refine VrN.keep ?_ | refine DrawN.calm (by decide +kernel) ?_ | refine Nd.mk (by decide +kernel) ?_ | refine Nd.mk (by omega) ?_ | (refine Nd.mk ?_ ?_; focus ((repeat' (first | exact trivial | exact wkE_refl _ | refine And.intro ?_ ?_)); done)) | refine RdN.intro _ rfl (by rfl) ?_); (conv => whnf))))
  refine brd_dec (fun h1 => ?_) (fun h1 => ?_)
  · obtain ⟨c, hc⟩ : ∃ c, ds[i]? = some c := ⟨_, List.getElem?_eq_getElem (by omega)⟩
    have hdc := hd c (List.mem_of_getElem? hc)
    rw [dig_eq, Bool.and_eq_true, decide_eq_true_eq, decide_eq_true_eq] at hdc
    have hs := numSat_snoc (ds.take i) c
    rw [← take_snoc hc] at hs
    have hb : numSat (ds.take i) ≤ 1001 := Nat.min_le_right _ _
    ((conv => whnf); (repeat ((first | refine BoxN.own ?_ | refine RwN.own ?_ | refine VrN.norm (wrap_i64 (by omega)) ?_ | refine VrN.keep ?_ | refine DrawN.calm (by decide +kernel) ?_ | refine Nd.mk (by decide +kernel) ?_ | refine Nd.mk (by omega) ?_ | (refine Nd.mk ?_ ?_; focus ((repeat' (first | exact trivial | exact wkE_refl _ | refine And.intro ?_ ?_)); done)) | refine RdN.intro _ rfl (by rfl) ?_); (conv => whnf))))
    refine Nd.mk ⟨rfl, by omega, by omega⟩ ?_
    ((conv => whnf); (repeat ((first | refine BoxN.own ?_ | refine RwN.own ?_ | refine VrN.norm (wrap_i64 (by omega)) ?_ | refine VrN.keep ?_ | refine DrawN.calm (by decide +kernel) ?_ | refine Nd.mk (by decide +kernel) ?_ | refine Nd.mk (by omega) ?_ | (refine Nd.mk ?_ ?_; focus ((repeat' (first | exact trivial | exact wkE_refl _ | refine And.intro ?_ ?_)); done)) | refine RdN.intro _ rfl (by rfl) ?_); (conv => whnf))))
    refine LdN.one (.int .u8 (c.toNat : Int)) rfl (fun w hw => hw.1) (show (u8s ds)[i * 1]? = _ by rw [Nat.mul_one]; simp [u8s, hc]) ?_
    (conv => whnf)
    refine VrN.keep ?_
    (conv => whnf)
    refine VrN.norm (m := ((numSat (ds.take (i + 1)) : Nat) : Int)) (by
      rw [hs, wrap_u8 (x := (c.toNat : Int) - 48) (by omega), wrap_i64 (x := (c.toNat : Int) - 48) (by omega), wrap_i64 (x := ((numSat (ds.take i) : Nat) : Int) * 10) (by omega), wrap_i64 (by omega)]
      unfold minI
      split <;> omega) ?_
    ((conv => whnf); (repeat ((first | refine BoxN.own ?_ | refine RwN.own ?_ | refine VrN.norm (wrap_i64 (by omega)) ?_ | refine VrN.keep ?_ | refine DrawN.calm (by decide +kernel) ?_ | refine Nd.mk (by decide +kernel) ?_ | refine Nd.mk (by omega) ?_ | (refine Nd.mk ?_ ?_; focus ((repeat' (first | exact trivial | exact wkE_refl _ | refine And.intro ?_ ?_)); done)) | refine RdN.intro _ rfl (by rfl) ?_); (conv => whnf))))
    refine ⟨i + 1, by omega, by omega, ?_, by (repeat' (first | exact trivial | exact wkE_refl _ | refine And.intro ?_ ?_))⟩
    (repeat' (first | exact trivial | refine And.intro (by with_reducible rfl) ?_ | (with_reducible exact wkC_refl _) | (with_reducible exact wkCs_refl _) | refine And.intro ?_ ?_))
    all_goals exact av_int (by first | omega | (rw [wrap_i64 (by omega)]; omega))
  · have hil : i = ds.length := by omega
    subst hil
    rw [List.take_length]
    obtain ⟨c, r, rfl⟩ := List.exists_cons_of_ne_nil hn
    have hb0 : byteAt (bs (c :: r)) (Int.toNat 0) = (c.toNat : Int) := byteAt_get rfl
    have hz := bs_size (c :: r)
    have hne : ((c.toNat : Int) != 48) = ((c :: r).head? != some 48) := by
      have h2 := u8_eq (c := c) (n := 48) (by decide)
      rw [bne, show ((c.toNat : Int) == 48) = (c == 48) from h2]
      rfl
    ((conv => whnf); (repeat ((first | refine BoxN.own ?_ | refine RwN.own ?_ | refine VrN.norm (wrap_i64 (by omega)) ?_ | refine VrN.keep ?_ | refine DrawN.calm (by decide +kernel) ?_ | refine Nd.mk (by decide +kernel) ?_ | refine Nd.mk (by omega) ?_ | (refine Nd.mk ?_ ?_; focus ((repeat' (first | exact trivial | exact wkE_refl _ | refine And.intro ?_ ?_)); done)) | refine RdN.intro _ rfl (by rfl) ?_); (conv => whnf))))
    refine brd_dec (fun h2 => ?_) (fun h2 => ?_)
    · rw [decide_eq_true (show numSat (c :: r) ≤ 1000 by omega), Bool.true_and]
      ((conv => whnf); (repeat ((first | refine BoxN.own ?_ | refine RwN.own ?_ | refine VrN.norm (wrap_i64 (by omega)) ?_ | refine VrN.keep ?_ | refine DrawN.calm (by decide +kernel) ?_ | refine Nd.mk (by decide +kernel) ?_ | refine Nd.mk (by omega) ?_ | (refine Nd.mk ?_ ?_; focus ((repeat' (first | exact trivial | exact wkE_refl _ | refine And.intro ?_ ?_)); done)) | refine RdN.intro _ rfl (by rfl) ?_); (conv => whnf))))
      refine Nd.mk ⟨by omega, by rw [hz]; simp⟩ ?_
      rw [hb0]
      ((conv => whnf); (repeat ((first | refine BoxN.own ?_ | refine RwN.own ?_ | refine VrN.norm (wrap_i64 (by omega)) ?_ | refine VrN.keep ?_ | refine DrawN.calm (by decide +kernel) ?_ | refine Nd.mk (by decide +kernel) ?_ | refine Nd.mk (by omega) ?_ | (refine Nd.mk ?_ ?_; focus ((repeat' (first | exact trivial | exact wkE_refl _ | refine And.intro ?_ ?_)); done)) | refine RdN.intro _ rfl (by rfl) ?_); (conv => whnf))))
      rw [hne]
      refine brd_intro (fun h3 => ?_) (fun h3 => ?_)
      · rw [h3]
        ((conv => whnf); (repeat ((first | refine BoxN.own ?_ | refine RwN.own ?_ | refine VrN.norm (wrap_i64 (by omega)) ?_ | refine VrN.keep ?_ | refine DrawN.calm (by decide +kernel) ?_ | refine Nd.mk (by decide +kernel) ?_ | refine Nd.mk (by omega) ?_ | (refine Nd.mk ?_ ?_; focus ((repeat' (first | exact trivial | exact wkE_refl _ | refine And.intro ?_ ?_)); done)) | refine RdN.intro _ rfl (by rfl) ?_); (conv => whnf))))
        rfl
      · rw [h3]
        ((conv => whnf); (repeat ((first | refine BoxN.own ?_ | refine RwN.own ?_ | refine VrN.norm (wrap_i64 (by omega)) ?_ | refine VrN.keep ?_ | refine DrawN.calm (by decide +kernel) ?_ | refine Nd.mk (by decide +kernel) ?_ | refine Nd.mk (by omega) ?_ | (refine Nd.mk ?_ ?_; focus ((repeat' (first | exact trivial | exact wkE_refl _ | refine And.intro ?_ ?_)); done)) | refine RdN.intro _ rfl (by rfl) ?_); (conv => whnf))))
        refine brd_intro (fun h4 => ?_) (fun h4 => ?_)
        · rw [h4]
          ((conv => whnf); (repeat ((first | refine BoxN.own ?_ | refine RwN.own ?_ | refine VrN.norm (wrap_i64 (by omega)) ?_ | refine VrN.keep ?_ | refine DrawN.calm (by decide +kernel) ?_ | refine Nd.mk (by decide +kernel) ?_ | refine Nd.mk (by omega) ?_ | (refine Nd.mk ?_ ?_; focus ((repeat' (first | exact trivial | exact wkE_refl _ | refine And.intro ?_ ?_)); done)) | refine RdN.intro _ rfl (by rfl) ?_); (conv => whnf))))
          rw [bs_list]
          rfl
        · rw [h4]
          ((conv => whnf); (repeat ((first | refine BoxN.own ?_ | refine RwN.own ?_ | refine VrN.norm (wrap_i64 (by omega)) ?_ | refine VrN.keep ?_ | refine DrawN.calm (by decide +kernel) ?_ | refine Nd.mk (by decide +kernel) ?_ | refine Nd.mk (by omega) ?_ | (refine Nd.mk ?_ ?_; focus ((repeat' (first | exact trivial | exact wkE_refl _ | refine And.intro ?_ ?_)); done)) | refine RdN.intro _ rfl (by rfl) ?_); (conv => whnf))))
          rfl
    · rw [decide_eq_false (show ¬ numSat (c :: r) ≤ 1000 by omega)]
      ((conv => whnf); (repeat ((first | refine BoxN.own ?_ | refine RwN.own ?_ | refine VrN.norm (wrap_i64 (by omega)) ?_ | refine VrN.keep ?_ | refine DrawN.calm (by decide +kernel) ?_ | refine Nd.mk (by decide +kernel) ?_ | refine Nd.mk (by omega) ?_ | (refine Nd.mk ?_ ?_; focus ((repeat' (first | exact trivial | exact wkE_refl _ | refine And.intro ?_ ?_)); done)) | refine RdN.intro _ rfl (by rfl) ?_); (conv => whnf))))
      rfl
end Go.Proofs.YtjkchonpnocffaaDoor

/-
  Plain Lean: a form, directive by directive.
-/
namespace Go.Pack
/-- Directives that were read, and what is left. -/
def ext (l : List Dir) (rest : B) : Option (List Dir) := (dirs rest).bind fun m => if (l ++ m).length ≤ 50 then some (l ++ m) else none
theorem ext_start (s : B) : ext [] (s.dropWhile (· == 32)) = forms s := by
  unfold ext forms
  rw [dirs_drop]
  cases dirs s <;> rfl
theorem ext_end (l : List Dir) (h : l.length ≤ 50) : ext l [] = some l := by
  simp [ext, dirs_nil, h]
theorem ext_bad {c : UInt8} {r : B} (l : List Dir) (hc : c ≠ 32) (h : one c r = none) : ext l (c :: r) = none := by
  unfold ext
  rw [dirs_cons hc, h]
  rfl
theorem ext_full {c : UInt8} {r : B} (l : List Dir) (hc : c ≠ 32) (h : l.length = 50) : ext l (c :: r) = none := by
  unfold ext
  rw [dirs_cons hc]
  cases one c r with
  | none => rfl
  | some x =>
    cases hd : dirs x.2 with
    | none => simp [hd]
    | some m =>
      simp only [hd, Option.map_some, Option.bind_some]
      rw [if_neg (by simp; omega)]
theorem ext_next {c : UInt8} {r r' : B} {d : Dir} (l : List Dir) (hc : c ≠ 32) (h : one c r = some (d, r')) : ext l (c :: r) = ext (l ++ [d]) (r'.dropWhile (· == 32)) := by
  unfold ext
  rw [dirs_cons hc, h, dirs_drop]
  simp only
  cases dirs r' with
  | none => rfl
  | some m => simp
theorem drop_head {s : B} {c : UInt8} {r : B} (h : s.dropWhile (· == 32) = c :: r) : c ≠ 32 := by
  intro h2
  subst h2
  have : ∀ s : B, s.dropWhile (· == 32) ≠ 32 :: r := by
    intro s
    induction s with
    | nil => intro h; cases h
    | cons a s ih =>
      intro h
      by_cases ha : a = 32
      · subst ha
        exact ih h
      · rw [List.dropWhile_cons_of_neg (by simpa using ha)] at h
        cases h
        exact ha rfl
  exact this s h
theorem pre_not {a : UInt8} {r : B} (h : [a].isPrefixOf r = false) : ¬ (r.head? == some a) = true := by
  cases r with
  | nil => intro h2; cases h2
  | cons b q =>
    intro h2
    have : b = a := by simpa using h2
    subst this
    simp [List.isPrefixOf] at h
theorem one_sign {c : UInt8} {r : B} (hl : letters.contains c = true) (hb : bigs.contains c = true) : one c (62 :: r) = (cnt c r).map fun x => (⟨c, true, x.1⟩, x.2) := by
  unfold one
  rw [if_pos hl, if_pos (by rfl), if_pos hb]
  rfl
theorem one_bare {c : UInt8} {r : B} (hl : letters.contains c = true) (h : [62].isPrefixOf r = false) : one c r = (cnt c r).map fun x => (⟨c, false, x.1⟩, x.2) := by
  unfold one
  rw [if_pos hl, if_neg]
  exact pre_not h
theorem one_letter {c : UInt8} {r : B} (hl : letters.contains c = false) : one c r = none := by
  unfold one
  rw [if_neg (by rw [hl]; simp)]
theorem one_small {c : UInt8} {r : B} (hb : bigs.contains c = false) : one c (62 :: r) = none := by
  unfold one
  split
  · rw [if_pos (by rfl), if_neg (by rw [hb]; simp)]
  · rfl
theorem cnt_star {c : UInt8} {r : B} : cnt c (42 :: r) = if c == 120 || c == 64 then none else some (-1, r) := by
  unfold cnt
  rw [if_pos (by rfl)]
  rfl
theorem cnt_none {c : UInt8} {r : B} (h : [42].isPrefixOf r = false) (hd : r.takeWhile dig = []) : cnt c r = some (-2, r) := by
  unfold cnt
  rw [if_neg, if_pos (by rw [hd]; rfl)]
  exact pre_not h
theorem cnt_dig {c : UInt8} {r : B} (h : [42].isPrefixOf r = false) (hd : r.takeWhile dig ≠ []) : cnt c r = if fine c (r.takeWhile dig) then some ((num (r.takeWhile dig) : Int), r.dropWhile dig) else none := by
  unfold cnt
  rw [if_neg, if_neg (by simpa using hd)]
  exact pre_not h
theorem pre_one {a : UInt8} {r : B} (h : [a].isPrefixOf r = true) : ∃ q, r = a :: q := by
  cases r with
  | nil => simp [List.isPrefixOf] at h
  | cons b q =>
    have : a = b := by simpa [List.isPrefixOf] using h
    exact ⟨q, by rw [this]⟩
theorem tw_len (r : B) : (r.takeWhile dig).length + (r.dropWhile dig).length = r.length := by
  rw [← List.length_append, List.takeWhile_append_dropWhile]
theorem tw_take (r : B) : r.take (r.takeWhile dig).length = r.takeWhile dig ∧ r.drop (r.takeWhile dig).length = r.dropWhile dig := by
  have h := List.takeWhile_append_dropWhile (p := dig) (l := r)
  constructor
  · conv => lhs; arg 2; rw [← h]
    exact List.take_left
  · conv => lhs; arg 2; rw [← h]
    exact List.drop_left
theorem tw_all : ∀ (r : B), ∀ c ∈ r.takeWhile dig, dig c = true
  | [], c, h => by cases h
  | a :: r, c, h => by
    cases ha : dig a with
    | true =>
      rw [List.takeWhile_cons_of_pos ha] at h
      rcases List.mem_cons.1 h with h | h
      · rw [h]; exact ha
      · exact tw_all r c h
    | false =>
      rw [List.takeWhile_cons_of_neg (by simp [ha])] at h
      cases h
end Go.Pack

/-
  Contract: the program's reader of forms.
-/
namespace Go.Proofs.YtjkchonpnocffaaDoor
open Go.AX Go.RowKit Go.Pack
set_option maxRecDepth 20000

def dirC (d : Dir) : List Value := [.int .u8 (d.letter.toNat : Int), .bool d.big, .int .i64 d.count]
def dirsC (l : List Dir) : List Value := l.flatMap dirC
theorem dirsC_get (l : List Dir) (i j : Nat) (hj : j < 3) {d : Dir} (hd : l[i]? = some d) : (dirsC l)[i * 3 + j]? = (dirC d)[j]? := by
  unfold dirsC
  rw [flat_get (g := dirC) (m := 3) (fun _ => rfl) l i j hj, hd]
  rfl
theorem fine_eq (c : UInt8) (ds : List UInt8) : (decide (numSat ds ≤ 1000) && (ds.head? != some 48 || (c == 64) && ds == [48])) = fine c ds := by
  unfold fine numSat
  congr 1
  exact decide_eq_decide.2 (by omega)
/-- The directives of a form in memory that nobody writes; or the form is malformed. -/
def ReadR : Option (List Dir) → Value → (World → Prop) → Prop
  | none, v, _ => ∃ y n cap, v = .tuple #[.slice y n cap, .bool false]
  | some l, v, G => ∃ ob cap, v = .tuple #[.slice (at0 ob) l.length cap, .bool true] ∧ (ob = none → l = []) ∧ ∀ w, G w → SlAt (at0 ob) (l.length * 3) (dirsC l) w
theorem read_c (s : List UInt8) (hs : s.length ≤ 100000) : SpecF Tryd.prog 23 [.string (bs s)] (fun _ => True) (ReadR (forms s)) := by
  refine specF hm Tryd.func23 (by kernel_rfl) rfl rfl ?_
  ((conv => whnf); (repeat ((first | refine BoxN.own ?_ | refine RwN.own ?_ | refine VrN.norm (wrap_i64 (by omega)) ?_ | refine VrN.keep ?_ | refine DrawN.calm (by decide +kernel) ?_ | refine Nd.mk (by decide +kernel) ?_ | refine Nd.mk (by omega) ?_ | (refine Nd.mk ?_ ?_; focus ((repeat' (first | exact trivial | exact wkE_refl _ | refine And.intro ?_ ?_)); done)) | refine RdN.intro _ rfl (by rfl) ?_); (conv => whnf))))
  refine call1 (TrimSp_c s _) ?_
  ((conv => whnf); (repeat ((first | refine BoxN.own ?_ | refine RwN.own ?_ | refine VrN.norm (wrap_i64 (by omega)) ?_ | refine VrN.keep ?_ | refine DrawN.calm (by decide +kernel) ?_ | refine Nd.mk (by decide +kernel) ?_ | refine Nd.mk (by omega) ?_ | (refine Nd.mk ?_ ?_; focus ((repeat' (first | exact trivial | exact wkE_refl _ | refine And.intro ?_ ?_)); done)) | refine RdN.intro _ rfl (by rfl) ?_); (conv => whnf))))
  refine LoopN.intro (List Dir × List UInt8 × Option Nat × Nat) (fun ⟨l, r, ob, cap⟩ => (∀ c r', r = c :: r' → c ≠ 32) ∧ ext l r = forms s ∧ (ob = none → l = [] ∧ cap = 0) ∧ l.length ≤ 50 ∧ r.length ≤ s.length)
    (fun ⟨l, r, ob, cap⟩ => mkS Tryd.f23.ntmps 0 [(0, .c (.v (.string (bs r)))), (4, .c (.v (.slice (at0 ob) l.length cap)))])
    (fun ⟨l, _, ob, cap⟩ => [.fact fun _ => True, .app 57 3 (dirsC l) (at0 ob) l.length cap]) (fun ⟨_, r, _⟩ => r.length) [.app 0 0 [] none 0 0] rfl
    (fun _ => rfl) (fun _ => rfl) (fun _ _ => okHB_eq rfl) ⟨([], s.dropWhile (· == 32), none, 0), ⟨fun c r' h => drop_head h, ext_start s, fun _ => ⟨rfl, rfl⟩, Nat.zero_le _, (List.dropWhile_sublist _).length_le⟩, ?_, ⟨wkE_refl _, wkE_nil, wkH_nil _⟩⟩ ?_
  · (repeat' (first | exact trivial | refine And.intro (by with_reducible rfl) ?_ | (with_reducible exact wkC_refl _) | (with_reducible exact wkCs_refl _) | refine And.intro ?_ ?_))
    all_goals rfl
  rintro ⟨l, r, ob, cap⟩ ⟨h32, hx, hob, h50, hlr⟩
  cases r with
  | nil =>
    rw [ext_end l h50] at hx
    ((conv => whnf); (repeat ((first | refine BoxN.own ?_ | refine RwN.own ?_ | refine VrN.norm (wrap_i64 (by omega)) ?_ | refine VrN.keep ?_ | refine DrawN.calm (by decide +kernel) ?_ | refine Nd.mk (by decide +kernel) ?_ | refine Nd.mk (by omega) ?_ | (refine Nd.mk ?_ ?_; focus ((repeat' (first | exact trivial | exact wkE_refl _ | refine And.intro ?_ ?_)); done)) | refine RdN.intro _ rfl (by rfl) ?_); (conv => whnf))))
    rw [← hx]
    exact fin_p _ ⟨ob, cap, rfl, fun h => (hob h).1, fun w hw => hw⟩ (fun w hw => hw.2.1)
  | cons c r =>
    have hc := h32 c r rfl
    have hb0 : byteAt (bs (c :: r)) (Int.toNat 0) = (c.toNat : Int) := byteAt_get rfl
    ((conv => whnf); (repeat ((first | refine BoxN.own ?_ | refine RwN.own ?_ | refine VrN.norm (wrap_i64 (by omega)) ?_ | refine VrN.keep ?_ | refine DrawN.calm (by decide +kernel) ?_ | refine Nd.mk (by decide +kernel) ?_ | refine Nd.mk (by omega) ?_ | (refine Nd.mk ?_ ?_; focus ((repeat' (first | exact trivial | exact wkE_refl _ | refine And.intro ?_ ?_)); done)) | refine RdN.intro _ rfl (by rfl) ?_); (conv => whnf))))
    refine Nd.mk ⟨by omega, by rw [bs_size]; simp⟩ ?_
    rw [hb0]
    ((conv => whnf); (repeat ((first | refine BoxN.own ?_ | refine RwN.own ?_ | refine VrN.norm (wrap_i64 (by omega)) ?_ | refine VrN.keep ?_ | refine DrawN.calm (by decide +kernel) ?_ | refine Nd.mk (by decide +kernel) ?_ | refine Nd.mk (by omega) ?_ | (refine Nd.mk ?_ ?_; focus ((repeat' (first | exact trivial | exact wkE_refl _ | refine And.intro ?_ ?_)); done)) | refine RdN.intro _ rfl (by rfl) ?_); (conv => whnf))))
    refine call1 (IndexByte_c letters c _) ?_
    ((conv => whnf); (repeat ((first | refine BoxN.own ?_ | refine RwN.own ?_ | refine VrN.norm (wrap_i64 (by omega)) ?_ | refine VrN.keep ?_ | refine DrawN.calm (by decide +kernel) ?_ | refine Nd.mk (by decide +kernel) ?_ | refine Nd.mk (by omega) ?_ | (refine Nd.mk ?_ ?_; focus ((repeat' (first | exact trivial | exact wkE_refl _ | refine And.intro ?_ ?_)); done)) | refine RdN.intro _ rfl (by rfl) ?_); (conv => whnf))))
    refine brd_dec (fun h1 => ?_) (fun h1 => ?_)
    · have hl := (index_lt letters c).1 h1
      ((conv => whnf); (repeat ((first | refine BoxN.own ?_ | refine RwN.own ?_ | refine VrN.norm (wrap_i64 (by omega)) ?_ | refine VrN.keep ?_ | refine DrawN.calm (by decide +kernel) ?_ | refine Nd.mk (by decide +kernel) ?_ | refine Nd.mk (by omega) ?_ | (refine Nd.mk ?_ ?_; focus ((repeat' (first | exact trivial | exact wkE_refl _ | refine And.intro ?_ ?_)); done)) | refine RdN.intro _ rfl (by rfl) ?_); (conv => whnf))))
      rw [← hx, ext_bad l hc (one_letter hl)]
      exact fin_v ⟨_, _, _, rfl⟩
    have hl : letters.contains c = true := by
      cases hl : letters.contains c with
      | true => rfl
      | false => exact absurd ((index_lt letters c).2 hl) h1
    ((conv => whnf); (repeat ((first | refine BoxN.own ?_ | refine RwN.own ?_ | refine VrN.norm (wrap_i64 (by omega)) ?_ | refine VrN.keep ?_ | refine DrawN.calm (by decide +kernel) ?_ | refine Nd.mk (by decide +kernel) ?_ | refine Nd.mk (by omega) ?_ | (refine Nd.mk ?_ ?_; focus ((repeat' (first | exact trivial | exact wkE_refl _ | refine And.intro ?_ ?_)); done)) | refine RdN.intro _ rfl (by rfl) ?_); (conv => whnf))))
    refine brd_eq (fun h2 => ?_) (fun h2 => ?_)
    ·
      ((conv => whnf); (repeat ((first | refine BoxN.own ?_ | refine RwN.own ?_ | refine VrN.norm (wrap_i64 (by omega)) ?_ | refine VrN.keep ?_ | refine DrawN.calm (by decide +kernel) ?_ | refine Nd.mk (by decide +kernel) ?_ | refine Nd.mk (by omega) ?_ | (refine Nd.mk ?_ ?_; focus ((repeat' (first | exact trivial | exact wkE_refl _ | refine And.intro ?_ ?_)); done)) | refine RdN.intro _ rfl (by rfl) ?_); (conv => whnf))))
      rw [← hx, ext_full l hc (by omega)]
      exact fin_v ⟨_, _, _, rfl⟩
    ((conv => whnf); (repeat ((first | refine BoxN.own ?_ | refine RwN.own ?_ | refine VrN.norm (wrap_i64 (by omega)) ?_ | refine VrN.keep ?_ | refine DrawN.calm (by decide +kernel) ?_ | refine Nd.mk (by decide +kernel) ?_ | refine Nd.mk (by omega) ?_ | (refine Nd.mk ?_ ?_; focus ((repeat' (first | exact trivial | exact wkE_refl _ | refine And.intro ?_ ?_)); done)) | refine RdN.intro _ rfl (by rfl) ?_); (conv => whnf))))
    refine ReadW.tl rfl Tryd.underlying9 rfl rfl ?_
    ((conv => whnf); (repeat ((first | refine BoxN.own ?_ | refine RwN.own ?_ | refine VrN.norm (wrap_i64 (by omega)) ?_ | refine VrN.keep ?_ | refine DrawN.calm (by decide +kernel) ?_ | refine Nd.mk (by decide +kernel) ?_ | refine Nd.mk (by omega) ?_ | (refine Nd.mk ?_ ?_; focus ((repeat' (first | exact trivial | exact wkE_refl _ | refine And.intro ?_ ?_)); done)) | refine RdN.intro _ rfl (by rfl) ?_); (conv => whnf))))
    refine call1 (HasPrefix_c r [62] _) ?_
    cases hsg : [62].isPrefixOf r with
    | true =>
      obtain ⟨r1, rfl⟩ := pre_one hsg
      ((conv => whnf); (repeat ((first | refine BoxN.own ?_ | refine RwN.own ?_ | refine VrN.norm (wrap_i64 (by omega)) ?_ | refine VrN.keep ?_ | refine DrawN.calm (by decide +kernel) ?_ | refine Nd.mk (by decide +kernel) ?_ | refine Nd.mk (by omega) ?_ | (refine Nd.mk ?_ ?_; focus ((repeat' (first | exact trivial | exact wkE_refl _ | refine And.intro ?_ ?_)); done)) | refine RdN.intro _ rfl (by rfl) ?_); (conv => whnf))))
      refine call1 (IndexByte_c bigs c _) ?_
      ((conv => whnf); (repeat ((first | refine BoxN.own ?_ | refine RwN.own ?_ | refine VrN.norm (wrap_i64 (by omega)) ?_ | refine VrN.keep ?_ | refine DrawN.calm (by decide +kernel) ?_ | refine Nd.mk (by decide +kernel) ?_ | refine Nd.mk (by omega) ?_ | (refine Nd.mk ?_ ?_; focus ((repeat' (first | exact trivial | exact wkE_refl _ | refine And.intro ?_ ?_)); done)) | refine RdN.intro _ rfl (by rfl) ?_); (conv => whnf))))
      refine brd_dec (fun h3 => ?_) (fun h3 => ?_)
      ·
        ((conv => whnf); (repeat ((first | refine BoxN.own ?_ | refine RwN.own ?_ | refine VrN.norm (wrap_i64 (by omega)) ?_ | refine VrN.keep ?_ | refine DrawN.calm (by decide +kernel) ?_ | refine Nd.mk (by decide +kernel) ?_ | refine Nd.mk (by omega) ?_ | (refine Nd.mk ?_ ?_; focus ((repeat' (first | exact trivial | exact wkE_refl _ | refine And.intro ?_ ?_)); done)) | refine RdN.intro _ rfl (by rfl) ?_); (conv => whnf))))
        rw [← hx, ext_bad l hc (one_small ((index_lt bigs c).1 h3))]
        exact fin_v ⟨_, _, _, rfl⟩
      have hb : bigs.contains c = true := by
        cases hb : bigs.contains c with
        | true => rfl
        | false => exact absurd ((index_lt bigs c).2 hb) h3
      ((conv => whnf); (repeat ((first | refine BoxN.own ?_ | refine RwN.own ?_ | refine VrN.norm (wrap_i64 (by omega)) ?_ | refine VrN.keep ?_ | refine DrawN.calm (by decide +kernel) ?_ | refine Nd.mk (by decide +kernel) ?_ | refine Nd.mk (by omega) ?_ | (refine Nd.mk ?_ ?_; focus ((repeat' (first | exact trivial | exact wkE_refl _ | refine And.intro ?_ ?_)); done)) | refine RdN.intro _ rfl (by rfl) ?_); (conv => whnf))))
      refine DrawN.plan [0, 2] [(1, 2)] [(3, 0), (4, 0)] (by decide +kernel) ?_
      ((conv => whnf); (repeat ((first | refine BoxN.own ?_ | refine RwN.own ?_ | refine VrN.norm (wrap_i64 (by omega)) ?_ | refine VrN.keep ?_ | refine DrawN.calm (by decide +kernel) ?_ | refine Nd.mk (by decide +kernel) ?_ | refine Nd.mk (by omega) ?_ | (refine Nd.mk ?_ ?_; focus ((repeat' (first | exact trivial | exact wkE_refl _ | refine And.intro ?_ ?_)); done)) | refine RdN.intro _ rfl (by rfl) ?_); (conv => whnf))))
      refine BlindW.tl rfl Tryd.underlying9 rfl rfl ?_
      -- the count behind the sign; true: is there one; r1: what is left; one_sign (r := r1) hl hb: one's law
      have htl := tw_len r1
      have htk := tw_take r1
      ((conv => whnf); (repeat ((first | refine BoxN.own ?_ | refine RwN.own ?_ | refine VrN.norm (wrap_i64 (by omega)) ?_ | refine VrN.keep ?_ | refine DrawN.calm (by decide +kernel) ?_ | refine Nd.mk (by decide +kernel) ?_ | refine Nd.mk (by omega) ?_ | (refine Nd.mk ?_ ?_; focus ((repeat' (first | exact trivial | exact wkE_refl _ | refine And.intro ?_ ?_)); done)) | refine RdN.intro _ rfl (by rfl) ?_); (conv => whnf))))
      refine call1 (TrimDig_c r1 _) ?_
      (conv => whnf)
      refine VrN.norm (m := (((r1).takeWhile dig).length : Int)) (by
        have h9 : (r1).length ≤ 100000 := by simp at hlr ⊢; omega
        have e1 : ∀ z : List UInt8, (bs z).size = z.length := bs_size
        simp only [e1]
        rw [wrap_i64 (by simp at *; omega)]
        simp at *; omega) ?_
      ((conv => whnf); (repeat ((first | refine BoxN.own ?_ | refine RwN.own ?_ | refine VrN.norm (wrap_i64 (by omega)) ?_ | refine VrN.keep ?_ | refine DrawN.calm (by decide +kernel) ?_ | refine Nd.mk (by decide +kernel) ?_ | refine Nd.mk (by omega) ?_ | (refine Nd.mk ?_ ?_; focus ((repeat' (first | exact trivial | exact wkE_refl _ | refine And.intro ?_ ?_)); done)) | refine RdN.intro _ rfl (by rfl) ?_); (conv => whnf))))
      refine call1 (HasPrefix_c r1 [42] _) ?_
      cases hst : [42].isPrefixOf r1 with
      | true =>
        have ho := one_sign (r := r1) hl hb
        obtain ⟨r2, rfl⟩ := pre_one hst
        rw [cnt_star] at ho
        ((conv => whnf); (repeat ((first | refine BoxN.own ?_ | refine RwN.own ?_ | refine VrN.norm (wrap_i64 (by omega)) ?_ | refine VrN.keep ?_ | refine DrawN.calm (by decide +kernel) ?_ | refine Nd.mk (by decide +kernel) ?_ | refine Nd.mk (by omega) ?_ | (refine Nd.mk ?_ ?_; focus ((repeat' (first | exact trivial | exact wkE_refl _ | refine And.intro ?_ ?_)); done)) | refine RdN.intro _ rfl (by rfl) ?_); (conv => whnf))))
        refine DrawN.plan [0, 2] [(1, 2)] [(3, 0), (4, 0)] (by decide +kernel) ?_
        ((conv => whnf); (repeat ((first | refine BoxN.own ?_ | refine RwN.own ?_ | refine VrN.norm (wrap_i64 (by omega)) ?_ | refine VrN.keep ?_ | refine DrawN.calm (by decide +kernel) ?_ | refine Nd.mk (by decide +kernel) ?_ | refine Nd.mk (by omega) ?_ | (refine Nd.mk ?_ ?_; focus ((repeat' (first | exact trivial | exact wkE_refl _ | refine And.intro ?_ ?_)); done)) | refine RdN.intro _ rfl (by rfl) ?_); (conv => whnf))))
        refine BlindW.tl rfl Tryd.underlying9 rfl rfl ?_
        ((conv => whnf); (repeat ((first | refine BoxN.own ?_ | refine RwN.own ?_ | refine VrN.norm (wrap_i64 (by omega)) ?_ | refine VrN.keep ?_ | refine DrawN.calm (by decide +kernel) ?_ | refine Nd.mk (by decide +kernel) ?_ | refine Nd.mk (by omega) ?_ | (refine Nd.mk ?_ ?_; focus ((repeat' (first | exact trivial | exact wkE_refl _ | refine And.intro ?_ ?_)); done)) | refine RdN.intro _ rfl (by rfl) ?_); (conv => whnf))))
        have h120 : ((c.toNat : Int) == 120) = (c == 120) := u8_eq (n := 120) (by decide)
        have h64 : ((c.toNat : Int) == 64) = (c == 64) := u8_eq (n := 64) (by decide)
        refine brd_eq (fun h5 => ?_) (fun h5 => ?_)
        · have h6 : (c == 120) = true := by rw [← h120]; simpa using h5
          rw [h6] at ho
          ((conv => whnf); (repeat ((first | refine BoxN.own ?_ | refine RwN.own ?_ | refine VrN.norm (wrap_i64 (by omega)) ?_ | refine VrN.keep ?_ | refine DrawN.calm (by decide +kernel) ?_ | refine Nd.mk (by decide +kernel) ?_ | refine Nd.mk (by omega) ?_ | (refine Nd.mk ?_ ?_; focus ((repeat' (first | exact trivial | exact wkE_refl _ | refine And.intro ?_ ?_)); done)) | refine RdN.intro _ rfl (by rfl) ?_); (conv => whnf))))
          rw [← hx, ext_bad l hc ho]
          exact fin_v ⟨_, _, _, rfl⟩
        have h6 : (c == 120) = false := by rw [← h120]; simpa using h5
        ((conv => whnf); (repeat ((first | refine BoxN.own ?_ | refine RwN.own ?_ | refine VrN.norm (wrap_i64 (by omega)) ?_ | refine VrN.keep ?_ | refine DrawN.calm (by decide +kernel) ?_ | refine Nd.mk (by decide +kernel) ?_ | refine Nd.mk (by omega) ?_ | (refine Nd.mk ?_ ?_; focus ((repeat' (first | exact trivial | exact wkE_refl _ | refine And.intro ?_ ?_)); done)) | refine RdN.intro _ rfl (by rfl) ?_); (conv => whnf))))
        refine brd_eq (fun h7 => ?_) (fun h7 => ?_)
        · have h8 : (c == 64) = true := by rw [← h64]; simpa using h7
          rw [h8, Bool.or_true] at ho
          ((conv => whnf); (repeat ((first | refine BoxN.own ?_ | refine RwN.own ?_ | refine VrN.norm (wrap_i64 (by omega)) ?_ | refine VrN.keep ?_ | refine DrawN.calm (by decide +kernel) ?_ | refine Nd.mk (by decide +kernel) ?_ | refine Nd.mk (by omega) ?_ | (refine Nd.mk ?_ ?_; focus ((repeat' (first | exact trivial | exact wkE_refl _ | refine And.intro ?_ ?_)); done)) | refine RdN.intro _ rfl (by rfl) ?_); (conv => whnf))))
          rw [← hx, ext_bad l hc ho]
          exact fin_v ⟨_, _, _, rfl⟩
        have h8 : (c == 64) = false := by rw [← h64]; simpa using h7
        rw [h6, h8] at ho
        -- the directive d is put behind the others
        ((conv => whnf); (repeat ((first | refine BoxN.own ?_ | refine RwN.own ?_ | refine VrN.norm (wrap_i64 (by omega)) ?_ | refine VrN.keep ?_ | refine DrawN.calm (by decide +kernel) ?_ | refine Nd.mk (by decide +kernel) ?_ | refine Nd.mk (by omega) ?_ | (refine Nd.mk ?_ ?_; focus ((repeat' (first | exact trivial | exact wkE_refl _ | refine And.intro ?_ ?_)); done)) | refine RdN.intro _ rfl (by rfl) ?_); (conv => whnf))))
        refine Nd.mk ⟨Nat.le_refl 1, rfl, rfl⟩ ?_
        (conv => whnf)
        refine AppN.grow 1 (dirsC l) (dirC ⟨c, true, (-1)⟩) rfl rfl ⟨Nat.le_refl 1, ⟨by show (l.length + 1) * 16 ≤ _; omega, by omega⟩, by show 3 ≠ 0; omega⟩ fun b' cap' h1 h2 => ?_
        ((conv => whnf); (repeat ((first | refine BoxN.own ?_ | refine RwN.own ?_ | refine VrN.norm (wrap_i64 (by omega)) ?_ | refine VrN.keep ?_ | refine DrawN.calm (by decide +kernel) ?_ | refine Nd.mk (by decide +kernel) ?_ | refine Nd.mk (by omega) ?_ | (refine Nd.mk ?_ ?_; focus ((repeat' (first | exact trivial | exact wkE_refl _ | refine And.intro ?_ ?_)); done)) | refine RdN.intro _ rfl (by rfl) ?_); (conv => whnf))))
        refine call1 (TrimSp_c r2 _) ?_
        ((conv => whnf); (repeat ((first | refine BoxN.own ?_ | refine RwN.own ?_ | refine VrN.norm (wrap_i64 (by omega)) ?_ | refine VrN.keep ?_ | refine DrawN.calm (by decide +kernel) ?_ | refine Nd.mk (by decide +kernel) ?_ | refine Nd.mk (by omega) ?_ | (refine Nd.mk ?_ ?_; focus ((repeat' (first | exact trivial | exact wkE_refl _ | refine And.intro ?_ ?_)); done)) | refine RdN.intro _ rfl (by rfl) ?_); (conv => whnf))))
        refine ⟨(l ++ [⟨c, true, (-1)⟩], (r2).dropWhile (· == 32), some b', cap'), ⟨?_, by rw [← hx, ext_next l hc ho], (fun h => by cases h), by simp; omega, (by have := (List.dropWhile_sublist (l := r2) fun x : UInt8 => x == 32).length_le; have := one_len ho; simp at this hlr ⊢; omega)⟩, ?_, ?_, ?_⟩
        · intro c' r' he
          exact drop_head he
        · refine Nat.lt_of_le_of_lt (List.dropWhile_sublist (l := r2) fun x : UInt8 => x == 32).length_le ?_
          have h5 := one_len ho
          first | (simp at h5 ⊢; omega) | (simp; done)
        · (repeat' (first | exact trivial | refine And.intro (by with_reducible rfl) ?_ | (with_reducible exact wkC_refl _) | (with_reducible exact wkCs_refl _) | refine And.intro ?_ ?_))
          all_goals simp [at0]
        · exact ⟨wkE_refl _, .inl ⟨rfl, rfl, by simp [dirsC], rfl, by simp, rfl⟩, wkH_nil _⟩
      | false =>
        ((conv => whnf); (repeat ((first | refine BoxN.own ?_ | refine RwN.own ?_ | refine VrN.norm (wrap_i64 (by omega)) ?_ | refine VrN.keep ?_ | refine DrawN.calm (by decide +kernel) ?_ | refine Nd.mk (by decide +kernel) ?_ | refine Nd.mk (by omega) ?_ | (refine Nd.mk ?_ ?_; focus ((repeat' (first | exact trivial | exact wkE_refl _ | refine And.intro ?_ ?_)); done)) | refine RdN.intro _ rfl (by rfl) ?_); (conv => whnf))))
        refine brd_dec (fun h5 => ?_) (fun h5 => ?_)
        · have hne : (r1).takeWhile dig ≠ [] := fun h => by rw [h] at h5; simp at h5
          have ho := one_sign (r := r1) hl hb
          rw [cnt_dig hst hne] at ho
          have hfe := fine_eq c ((r1).takeWhile dig)
          have h64 : ((c.toNat : Int) == 64) = (c == 64) := u8_eq (n := 64) (by decide)
          have hlt : ((r1).takeWhile dig).length ≤ 1000000 := by simp at hlr htl ⊢; omega
          ((conv => whnf); (repeat ((first | refine BoxN.own ?_ | refine RwN.own ?_ | refine VrN.norm (wrap_i64 (by omega)) ?_ | refine VrN.keep ?_ | refine DrawN.calm (by decide +kernel) ?_ | refine Nd.mk (by decide +kernel) ?_ | refine Nd.mk (by omega) ?_ | (refine Nd.mk ?_ ?_; focus ((repeat' (first | exact trivial | exact wkE_refl _ | refine And.intro ?_ ?_)); done)) | refine RdN.intro _ rfl (by rfl) ?_); (conv => whnf))))
          refine ReadW.sl_h ((r1).takeWhile dig).length rfl Tryd.underlying9 rfl rfl ⟨rfl, by omega⟩ ?_
          rw [htk.1]
          ((conv => whnf); (repeat ((first | refine BoxN.own ?_ | refine RwN.own ?_ | refine VrN.norm (wrap_i64 (by omega)) ?_ | refine VrN.keep ?_ | refine DrawN.calm (by decide +kernel) ?_ | refine Nd.mk (by decide +kernel) ?_ | refine Nd.mk (by omega) ?_ | (refine Nd.mk ?_ ?_; focus ((repeat' (first | exact trivial | exact wkE_refl _ | refine And.intro ?_ ?_)); done)) | refine RdN.intro _ rfl (by rfl) ?_); (conv => whnf))))
          rw [h64]
          refine callQ (count_c ((r1).takeWhile dig) (c == 64) (tw_all _) hne hlt _) ?_
          rw [hfe]
          ((conv => whnf); (repeat ((first | refine BoxN.own ?_ | refine RwN.own ?_ | refine VrN.norm (wrap_i64 (by omega)) ?_ | refine VrN.keep ?_ | refine DrawN.calm (by decide +kernel) ?_ | refine Nd.mk (by decide +kernel) ?_ | refine Nd.mk (by omega) ?_ | (refine Nd.mk ?_ ?_; focus ((repeat' (first | exact trivial | exact wkE_refl _ | refine And.intro ?_ ?_)); done)) | refine RdN.intro _ rfl (by rfl) ?_); (conv => whnf))))
          refine brd_not (brd_intro (fun h6 => ?_) (fun h6 => ?_))
          · rw [if_pos h6] at ho
            have hnum : numSat ((r1).takeWhile dig) = num ((r1).takeWhile dig) := by
              unfold fine at h6
              simp only [Bool.and_eq_true, decide_eq_true_eq] at h6
              unfold numSat
              omega
            rw [hnum]
            generalize num ((r1).takeWhile dig) = q at *
            ((conv => whnf); (repeat ((first | refine BoxN.own ?_ | refine RwN.own ?_ | refine VrN.norm (wrap_i64 (by omega)) ?_ | refine VrN.keep ?_ | refine DrawN.calm (by decide +kernel) ?_ | refine Nd.mk (by decide +kernel) ?_ | refine Nd.mk (by omega) ?_ | (refine Nd.mk ?_ ?_; focus ((repeat' (first | exact trivial | exact wkE_refl _ | refine And.intro ?_ ?_)); done)) | refine RdN.intro _ rfl (by rfl) ?_); (conv => whnf))))
            refine DrawN.plan [0, 1, 2, 4] [(3, 2)] [(5, 0), (6, 0)] (by decide +kernel) ?_
            ((conv => whnf); (repeat ((first | refine BoxN.own ?_ | refine RwN.own ?_ | refine VrN.norm (wrap_i64 (by omega)) ?_ | refine VrN.keep ?_ | refine DrawN.calm (by decide +kernel) ?_ | refine Nd.mk (by decide +kernel) ?_ | refine Nd.mk (by omega) ?_ | (refine Nd.mk ?_ ?_; focus ((repeat' (first | exact trivial | exact wkE_refl _ | refine And.intro ?_ ?_)); done)) | refine RdN.intro _ rfl (by rfl) ?_); (conv => whnf))))
            refine BlindW.sl_l ((r1).takeWhile dig).length rfl Tryd.underlying9 rfl rfl ⟨rfl, by omega⟩ ?_
            rw [htk.2]
            ((conv => whnf); (repeat ((first | refine BoxN.own ?_ | refine RwN.own ?_ | refine VrN.norm (wrap_i64 (by omega)) ?_ | refine VrN.keep ?_ | refine DrawN.calm (by decide +kernel) ?_ | refine Nd.mk (by decide +kernel) ?_ | refine Nd.mk (by omega) ?_ | (refine Nd.mk ?_ ?_; focus ((repeat' (first | exact trivial | exact wkE_refl _ | refine And.intro ?_ ?_)); done)) | refine RdN.intro _ rfl (by rfl) ?_); (conv => whnf))))
            -- the directive d is put behind the others
            ((conv => whnf); (repeat ((first | refine BoxN.own ?_ | refine RwN.own ?_ | refine VrN.norm (wrap_i64 (by omega)) ?_ | refine VrN.keep ?_ | refine DrawN.calm (by decide +kernel) ?_ | refine Nd.mk (by decide +kernel) ?_ | refine Nd.mk (by omega) ?_ | (refine Nd.mk ?_ ?_; focus ((repeat' (first | exact trivial | exact wkE_refl _ | refine And.intro ?_ ?_)); done)) | refine RdN.intro _ rfl (by rfl) ?_); (conv => whnf))))
            refine Nd.mk ⟨Nat.le_refl 1, rfl, rfl⟩ ?_
            (conv => whnf)
            refine AppN.grow 1 (dirsC l) (dirC ⟨c, true, (q : Int)⟩) rfl rfl ⟨Nat.le_refl 1, ⟨by show (l.length + 1) * 16 ≤ _; omega, by omega⟩, by show 3 ≠ 0; omega⟩ fun b' cap' h1 h2 => ?_
            ((conv => whnf); (repeat ((first | refine BoxN.own ?_ | refine RwN.own ?_ | refine VrN.norm (wrap_i64 (by omega)) ?_ | refine VrN.keep ?_ | refine DrawN.calm (by decide +kernel) ?_ | refine Nd.mk (by decide +kernel) ?_ | refine Nd.mk (by omega) ?_ | (refine Nd.mk ?_ ?_; focus ((repeat' (first | exact trivial | exact wkE_refl _ | refine And.intro ?_ ?_)); done)) | refine RdN.intro _ rfl (by rfl) ?_); (conv => whnf))))
            refine call1 (TrimSp_c ((r1).dropWhile dig) _) ?_
            ((conv => whnf); (repeat ((first | refine BoxN.own ?_ | refine RwN.own ?_ | refine VrN.norm (wrap_i64 (by omega)) ?_ | refine VrN.keep ?_ | refine DrawN.calm (by decide +kernel) ?_ | refine Nd.mk (by decide +kernel) ?_ | refine Nd.mk (by omega) ?_ | (refine Nd.mk ?_ ?_; focus ((repeat' (first | exact trivial | exact wkE_refl _ | refine And.intro ?_ ?_)); done)) | refine RdN.intro _ rfl (by rfl) ?_); (conv => whnf))))
            refine ⟨(l ++ [⟨c, true, (q : Int)⟩], (((r1).dropWhile dig)).dropWhile (· == 32), some b', cap'), ⟨?_, by rw [← hx, ext_next l hc ho], (fun h => by cases h), by simp; omega, (by have := (List.dropWhile_sublist (l := ((r1).dropWhile dig)) fun x : UInt8 => x == 32).length_le; have := one_len ho; simp at this hlr ⊢; omega)⟩, ?_, ?_, ?_⟩
            · intro c' r' he
              exact drop_head he
            · refine Nat.lt_of_le_of_lt (List.dropWhile_sublist (l := ((r1).dropWhile dig)) fun x : UInt8 => x == 32).length_le ?_
              have h5 := one_len ho
              first | (simp at h5 ⊢; omega) | (simp; done)
            · (repeat' (first | exact trivial | refine And.intro (by with_reducible rfl) ?_ | (with_reducible exact wkC_refl _) | (with_reducible exact wkCs_refl _) | refine And.intro ?_ ?_))
              all_goals simp [at0]
            · exact ⟨wkE_refl _, .inl ⟨rfl, rfl, by simp [dirsC], rfl, by simp, rfl⟩, wkH_nil _⟩
          · rw [if_neg (by rw [h6]; simp)] at ho
            ((conv => whnf); (repeat ((first | refine BoxN.own ?_ | refine RwN.own ?_ | refine VrN.norm (wrap_i64 (by omega)) ?_ | refine VrN.keep ?_ | refine DrawN.calm (by decide +kernel) ?_ | refine Nd.mk (by decide +kernel) ?_ | refine Nd.mk (by omega) ?_ | (refine Nd.mk ?_ ?_; focus ((repeat' (first | exact trivial | exact wkE_refl _ | refine And.intro ?_ ?_)); done)) | refine RdN.intro _ rfl (by rfl) ?_); (conv => whnf))))
            rw [← hx, ext_bad l hc ho]
            exact fin_v ⟨_, _, _, rfl⟩
        · have htw : (r1).takeWhile dig = [] := List.eq_nil_of_length_eq_zero (by omega)
          have ho := one_sign (r := r1) hl hb
          rw [cnt_none hst htw] at ho
          -- the directive d is put behind the others
          ((conv => whnf); (repeat ((first | refine BoxN.own ?_ | refine RwN.own ?_ | refine VrN.norm (wrap_i64 (by omega)) ?_ | refine VrN.keep ?_ | refine DrawN.calm (by decide +kernel) ?_ | refine Nd.mk (by decide +kernel) ?_ | refine Nd.mk (by omega) ?_ | (refine Nd.mk ?_ ?_; focus ((repeat' (first | exact trivial | exact wkE_refl _ | refine And.intro ?_ ?_)); done)) | refine RdN.intro _ rfl (by rfl) ?_); (conv => whnf))))
          refine Nd.mk ⟨Nat.le_refl 1, rfl, rfl⟩ ?_
          (conv => whnf)
          refine AppN.grow 1 (dirsC l) (dirC ⟨c, true, (-2)⟩) rfl rfl ⟨Nat.le_refl 1, ⟨by show (l.length + 1) * 16 ≤ _; omega, by omega⟩, by show 3 ≠ 0; omega⟩ fun b' cap' h1 h2 => ?_
          ((conv => whnf); (repeat ((first | refine BoxN.own ?_ | refine RwN.own ?_ | refine VrN.norm (wrap_i64 (by omega)) ?_ | refine VrN.keep ?_ | refine DrawN.calm (by decide +kernel) ?_ | refine Nd.mk (by decide +kernel) ?_ | refine Nd.mk (by omega) ?_ | (refine Nd.mk ?_ ?_; focus ((repeat' (first | exact trivial | exact wkE_refl _ | refine And.intro ?_ ?_)); done)) | refine RdN.intro _ rfl (by rfl) ?_); (conv => whnf))))
          refine call1 (TrimSp_c r1 _) ?_
          ((conv => whnf); (repeat ((first | refine BoxN.own ?_ | refine RwN.own ?_ | refine VrN.norm (wrap_i64 (by omega)) ?_ | refine VrN.keep ?_ | refine DrawN.calm (by decide +kernel) ?_ | refine Nd.mk (by decide +kernel) ?_ | refine Nd.mk (by omega) ?_ | (refine Nd.mk ?_ ?_; focus ((repeat' (first | exact trivial | exact wkE_refl _ | refine And.intro ?_ ?_)); done)) | refine RdN.intro _ rfl (by rfl) ?_); (conv => whnf))))
          refine ⟨(l ++ [⟨c, true, (-2)⟩], (r1).dropWhile (· == 32), some b', cap'), ⟨?_, by rw [← hx, ext_next l hc ho], (fun h => by cases h), by simp; omega, (by have := (List.dropWhile_sublist (l := r1) fun x : UInt8 => x == 32).length_le; have := one_len ho; simp at this hlr ⊢; omega)⟩, ?_, ?_, ?_⟩
          · intro c' r' he
            exact drop_head he
          · refine Nat.lt_of_le_of_lt (List.dropWhile_sublist (l := r1) fun x : UInt8 => x == 32).length_le ?_
            have h5 := one_len ho
            first | (simp at h5 ⊢; omega) | (simp; done)
          · (repeat' (first | exact trivial | refine And.intro (by with_reducible rfl) ?_ | (with_reducible exact wkC_refl _) | (with_reducible exact wkCs_refl _) | refine And.intro ?_ ?_))
            all_goals simp [at0]
          · exact ⟨wkE_refl _, .inl ⟨rfl, rfl, by simp [dirsC], rfl, by simp, rfl⟩, wkH_nil _⟩
    | false =>
      -- the count behind the sign; false: is there one; r: what is left; one_bare hl hsg: one's law
      have htl := tw_len r
      have htk := tw_take r
      ((conv => whnf); (repeat ((first | refine BoxN.own ?_ | refine RwN.own ?_ | refine VrN.norm (wrap_i64 (by omega)) ?_ | refine VrN.keep ?_ | refine DrawN.calm (by decide +kernel) ?_ | refine Nd.mk (by decide +kernel) ?_ | refine Nd.mk (by omega) ?_ | (refine Nd.mk ?_ ?_; focus ((repeat' (first | exact trivial | exact wkE_refl _ | refine And.intro ?_ ?_)); done)) | refine RdN.intro _ rfl (by rfl) ?_); (conv => whnf))))
      refine call1 (TrimDig_c r _) ?_
      (conv => whnf)
      refine VrN.norm (m := (((r).takeWhile dig).length : Int)) (by
        have h9 : (r).length ≤ 100000 := by simp at hlr ⊢; omega
        have e1 : ∀ z : List UInt8, (bs z).size = z.length := bs_size
        simp only [e1]
        rw [wrap_i64 (by simp at *; omega)]
        simp at *; omega) ?_
      ((conv => whnf); (repeat ((first | refine BoxN.own ?_ | refine RwN.own ?_ | refine VrN.norm (wrap_i64 (by omega)) ?_ | refine VrN.keep ?_ | refine DrawN.calm (by decide +kernel) ?_ | refine Nd.mk (by decide +kernel) ?_ | refine Nd.mk (by omega) ?_ | (refine Nd.mk ?_ ?_; focus ((repeat' (first | exact trivial | exact wkE_refl _ | refine And.intro ?_ ?_)); done)) | refine RdN.intro _ rfl (by rfl) ?_); (conv => whnf))))
      refine call1 (HasPrefix_c r [42] _) ?_
      cases hst : [42].isPrefixOf r with
      | true =>
        have ho := one_bare hl hsg
        obtain ⟨r2, rfl⟩ := pre_one hst
        rw [cnt_star] at ho
        ((conv => whnf); (repeat ((first | refine BoxN.own ?_ | refine RwN.own ?_ | refine VrN.norm (wrap_i64 (by omega)) ?_ | refine VrN.keep ?_ | refine DrawN.calm (by decide +kernel) ?_ | refine Nd.mk (by decide +kernel) ?_ | refine Nd.mk (by omega) ?_ | (refine Nd.mk ?_ ?_; focus ((repeat' (first | exact trivial | exact wkE_refl _ | refine And.intro ?_ ?_)); done)) | refine RdN.intro _ rfl (by rfl) ?_); (conv => whnf))))
        refine DrawN.plan [0, 2] [(1, 2)] [(3, 0), (4, 0)] (by decide +kernel) ?_
        ((conv => whnf); (repeat ((first | refine BoxN.own ?_ | refine RwN.own ?_ | refine VrN.norm (wrap_i64 (by omega)) ?_ | refine VrN.keep ?_ | refine DrawN.calm (by decide +kernel) ?_ | refine Nd.mk (by decide +kernel) ?_ | refine Nd.mk (by omega) ?_ | (refine Nd.mk ?_ ?_; focus ((repeat' (first | exact trivial | exact wkE_refl _ | refine And.intro ?_ ?_)); done)) | refine RdN.intro _ rfl (by rfl) ?_); (conv => whnf))))
        refine BlindW.tl rfl Tryd.underlying9 rfl rfl ?_
        ((conv => whnf); (repeat ((first | refine BoxN.own ?_ | refine RwN.own ?_ | refine VrN.norm (wrap_i64 (by omega)) ?_ | refine VrN.keep ?_ | refine DrawN.calm (by decide +kernel) ?_ | refine Nd.mk (by decide +kernel) ?_ | refine Nd.mk (by omega) ?_ | (refine Nd.mk ?_ ?_; focus ((repeat' (first | exact trivial | exact wkE_refl _ | refine And.intro ?_ ?_)); done)) | refine RdN.intro _ rfl (by rfl) ?_); (conv => whnf))))
        have h120 : ((c.toNat : Int) == 120) = (c == 120) := u8_eq (n := 120) (by decide)
        have h64 : ((c.toNat : Int) == 64) = (c == 64) := u8_eq (n := 64) (by decide)
        refine brd_eq (fun h5 => ?_) (fun h5 => ?_)
        · have h6 : (c == 120) = true := by rw [← h120]; simpa using h5
          rw [h6] at ho
          ((conv => whnf); (repeat ((first | refine BoxN.own ?_ | refine RwN.own ?_ | refine VrN.norm (wrap_i64 (by omega)) ?_ | refine VrN.keep ?_ | refine DrawN.calm (by decide +kernel) ?_ | refine Nd.mk (by decide +kernel) ?_ | refine Nd.mk (by omega) ?_ | (refine Nd.mk ?_ ?_; focus ((repeat' (first | exact trivial | exact wkE_refl _ | refine And.intro ?_ ?_)); done)) | refine RdN.intro _ rfl (by rfl) ?_); (conv => whnf))))
          rw [← hx, ext_bad l hc ho]
          exact fin_v ⟨_, _, _, rfl⟩
        have h6 : (c == 120) = false := by rw [← h120]; simpa using h5
        ((conv => whnf); (repeat ((first | refine BoxN.own ?_ | refine RwN.own ?_ | refine VrN.norm (wrap_i64 (by omega)) ?_ | refine VrN.keep ?_ | refine DrawN.calm (by decide +kernel) ?_ | refine Nd.mk (by decide +kernel) ?_ | refine Nd.mk (by omega) ?_ | (refine Nd.mk ?_ ?_; focus ((repeat' (first | exact trivial | exact wkE_refl _ | refine And.intro ?_ ?_)); done)) | refine RdN.intro _ rfl (by rfl) ?_); (conv => whnf))))
        refine brd_eq (fun h7 => ?_) (fun h7 => ?_)
        · have h8 : (c == 64) = true := by rw [← h64]; simpa using h7
          rw [h8, Bool.or_true] at ho
          ((conv => whnf); (repeat ((first | refine BoxN.own ?_ | refine RwN.own ?_ | refine VrN.norm (wrap_i64 (by omega)) ?_ | refine VrN.keep ?_ | refine DrawN.calm (by decide +kernel) ?_ | refine Nd.mk (by decide +kernel) ?_ | refine Nd.mk (by omega) ?_ | (refine Nd.mk ?_ ?_; focus ((repeat' (first | exact trivial | exact wkE_refl _ | refine And.intro ?_ ?_)); done)) | refine RdN.intro _ rfl (by rfl) ?_); (conv => whnf))))
          rw [← hx, ext_bad l hc ho]
          exact fin_v ⟨_, _, _, rfl⟩
        have h8 : (c == 64) = false := by rw [← h64]; simpa using h7
        rw [h6, h8] at ho
        -- the directive d is put behind the others
        ((conv => whnf); (repeat ((first | refine BoxN.own ?_ | refine RwN.own ?_ | refine VrN.norm (wrap_i64 (by omega)) ?_ | refine VrN.keep ?_ | refine DrawN.calm (by decide +kernel) ?_ | refine Nd.mk (by decide +kernel) ?_ | refine Nd.mk (by omega) ?_ | (refine Nd.mk ?_ ?_; focus ((repeat' (first | exact trivial | exact wkE_refl _ | refine And.intro ?_ ?_)); done)) | refine RdN.intro _ rfl (by rfl) ?_); (conv => whnf))))
        refine Nd.mk ⟨Nat.le_refl 1, rfl, rfl⟩ ?_
        (conv => whnf)
        refine AppN.grow 1 (dirsC l) (dirC ⟨c, false, (-1)⟩) rfl rfl ⟨Nat.le_refl 1, ⟨by show (l.length + 1) * 16 ≤ _; omega, by omega⟩, by show 3 ≠ 0; omega⟩ fun b' cap' h1 h2 => ?_
        ((conv => whnf); (repeat ((first | refine BoxN.own ?_ | refine RwN.own ?_ | refine VrN.norm (wrap_i64 (by omega)) ?_ | refine VrN.keep ?_ | refine DrawN.calm (by decide +kernel) ?_ | refine Nd.mk (by decide +kernel) ?_ | refine Nd.mk (by omega) ?_ | (refine Nd.mk ?_ ?_; focus ((repeat' (first | exact trivial | exact wkE_refl _ | refine And.intro ?_ ?_)); done)) | refine RdN.intro _ rfl (by rfl) ?_); (conv => whnf))))
        refine call1 (TrimSp_c r2 _) ?_
        ((conv => whnf); (repeat ((first | refine BoxN.own ?_ | refine RwN.own ?_ | refine VrN.norm (wrap_i64 (by omega)) ?_ | refine VrN.keep ?_ | refine DrawN.calm (by decide +kernel) ?_ | refine Nd.mk (by decide +kernel) ?_ | refine Nd.mk (by omega) ?_ | (refine Nd.mk ?_ ?_; focus ((repeat' (first | exact trivial | exact wkE_refl _ | refine And.intro ?_ ?_)); done)) | refine RdN.intro _ rfl (by rfl) ?_); (conv => whnf))))
        refine ⟨(l ++ [⟨c, false, (-1)⟩], (r2).dropWhile (· == 32), some b', cap'), ⟨?_, by rw [← hx, ext_next l hc ho], (fun h => by cases h), by simp; omega, (by have := (List.dropWhile_sublist (l := r2) fun x : UInt8 => x == 32).length_le; have := one_len ho; simp at this hlr ⊢; omega)⟩, ?_, ?_, ?_⟩
        · intro c' r' he
          exact drop_head he
        · refine Nat.lt_of_le_of_lt (List.dropWhile_sublist (l := r2) fun x : UInt8 => x == 32).length_le ?_
          have h5 := one_len ho
          first | (simp at h5 ⊢; omega) | (simp; done)
        · (repeat' (first | exact trivial | refine And.intro (by with_reducible rfl) ?_ | (with_reducible exact wkC_refl _) | (with_reducible exact wkCs_refl _) | refine And.intro ?_ ?_))
          all_goals simp [at0]
        · exact ⟨wkE_refl _, .inl ⟨rfl, rfl, by simp [dirsC], rfl, by simp, rfl⟩, wkH_nil _⟩
      | false =>
        ((conv => whnf); (repeat ((first | refine BoxN.own ?_ | refine RwN.own ?_ | refine VrN.norm (wrap_i64 (by omega)) ?_ | refine VrN.keep ?_ | refine DrawN.calm (by decide +kernel) ?_ | refine Nd.mk (by decide +kernel) ?_ | refine Nd.mk (by omega) ?_ | (refine Nd.mk ?_ ?_; focus ((repeat' (first | exact trivial | exact wkE_refl _ | refine And.intro ?_ ?_)); done)) | refine RdN.intro _ rfl (by rfl) ?_); (conv => whnf))))
        refine brd_dec (fun h5 => ?_) (fun h5 => ?_)
        · have hne : (r).takeWhile dig ≠ [] := fun h => by rw [h] at h5; simp at h5
          have ho := one_bare hl hsg
          rw [cnt_dig hst hne] at ho
          have hfe := fine_eq c ((r).takeWhile dig)
          have h64 : ((c.toNat : Int) == 64) = (c == 64) := u8_eq (n := 64) (by decide)
          have hlt : ((r).takeWhile dig).length ≤ 1000000 := by simp at hlr htl ⊢; omega
          ((conv => whnf); (repeat ((first | refine BoxN.own ?_ | refine RwN.own ?_ | refine VrN.norm (wrap_i64 (by omega)) ?_ | refine VrN.keep ?_ | refine DrawN.calm (by decide +kernel) ?_ | refine Nd.mk (by decide +kernel) ?_ | refine Nd.mk (by omega) ?_ | (refine Nd.mk ?_ ?_; focus ((repeat' (first | exact trivial | exact wkE_refl _ | refine And.intro ?_ ?_)); done)) | refine RdN.intro _ rfl (by rfl) ?_); (conv => whnf))))
          refine ReadW.sl_h ((r).takeWhile dig).length rfl Tryd.underlying9 rfl rfl ⟨rfl, by omega⟩ ?_
          rw [htk.1]
          ((conv => whnf); (repeat ((first | refine BoxN.own ?_ | refine RwN.own ?_ | refine VrN.norm (wrap_i64 (by omega)) ?_ | refine VrN.keep ?_ | refine DrawN.calm (by decide +kernel) ?_ | refine Nd.mk (by decide +kernel) ?_ | refine Nd.mk (by omega) ?_ | (refine Nd.mk ?_ ?_; focus ((repeat' (first | exact trivial | exact wkE_refl _ | refine And.intro ?_ ?_)); done)) | refine RdN.intro _ rfl (by rfl) ?_); (conv => whnf))))
          rw [h64]
          refine callQ (count_c ((r).takeWhile dig) (c == 64) (tw_all _) hne hlt _) ?_
          rw [hfe]
          ((conv => whnf); (repeat ((first | refine BoxN.own ?_ | refine RwN.own ?_ | refine VrN.norm (wrap_i64 (by omega)) ?_ | refine VrN.keep ?_ | refine DrawN.calm (by decide +kernel) ?_ | refine Nd.mk (by decide +kernel) ?_ | refine Nd.mk (by omega) ?_ | (refine Nd.mk ?_ ?_; focus ((repeat' (first | exact trivial | exact wkE_refl _ | refine And.intro ?_ ?_)); done)) | refine RdN.intro _ rfl (by rfl) ?_); (conv => whnf))))
          refine brd_not (brd_intro (fun h6 => ?_) (fun h6 => ?_))
          · rw [if_pos h6] at ho
            have hnum : numSat ((r).takeWhile dig) = num ((r).takeWhile dig) := by
              unfold fine at h6
              simp only [Bool.and_eq_true, decide_eq_true_eq] at h6
              unfold numSat
              omega
            rw [hnum]
            generalize num ((r).takeWhile dig) = q at *
            ((conv => whnf); (repeat ((first | refine BoxN.own ?_ | refine RwN.own ?_ | refine VrN.norm (wrap_i64 (by omega)) ?_ | refine VrN.keep ?_ | refine DrawN.calm (by decide +kernel) ?_ | refine Nd.mk (by decide +kernel) ?_ | refine Nd.mk (by omega) ?_ | (refine Nd.mk ?_ ?_; focus ((repeat' (first | exact trivial | exact wkE_refl _ | refine And.intro ?_ ?_)); done)) | refine RdN.intro _ rfl (by rfl) ?_); (conv => whnf))))
            refine DrawN.plan [0, 1, 2, 4] [(3, 2)] [(5, 0), (6, 0)] (by decide +kernel) ?_
            ((conv => whnf); (repeat ((first | refine BoxN.own ?_ | refine RwN.own ?_ | refine VrN.norm (wrap_i64 (by omega)) ?_ | refine VrN.keep ?_ | refine DrawN.calm (by decide +kernel) ?_ | refine Nd.mk (by decide +kernel) ?_ | refine Nd.mk (by omega) ?_ | (refine Nd.mk ?_ ?_; focus ((repeat' (first | exact trivial | exact wkE_refl _ | refine And.intro ?_ ?_)); done)) | refine RdN.intro _ rfl (by rfl) ?_); (conv => whnf))))
            refine BlindW.sl_l ((r).takeWhile dig).length rfl Tryd.underlying9 rfl rfl ⟨rfl, by omega⟩ ?_
            rw [htk.2]
            ((conv => whnf); (repeat ((first | refine BoxN.own ?_ | refine RwN.own ?_ | refine VrN.norm (wrap_i64 (by omega)) ?_ | refine VrN.keep ?_ | refine DrawN.calm (by decide +kernel) ?_ | refine Nd.mk (by decide +kernel) ?_ | refine Nd.mk (by omega) ?_ | (refine Nd.mk ?_ ?_; focus ((repeat' (first | exact trivial | exact wkE_refl _ | refine And.intro ?_ ?_)); done)) | refine RdN.intro _ rfl (by rfl) ?_); (conv => whnf))))
            -- the directive d is put behind the others
            ((conv => whnf); (repeat ((first | refine BoxN.own ?_ | refine RwN.own ?_ | refine VrN.norm (wrap_i64 (by omega)) ?_ | refine VrN.keep ?_ | refine DrawN.calm (by decide +kernel) ?_ | refine Nd.mk (by decide +kernel) ?_ | refine Nd.mk (by omega) ?_ | (refine Nd.mk ?_ ?_; focus ((repeat' (first | exact trivial | exact wkE_refl _ | refine And.intro ?_ ?_)); done)) | refine RdN.intro _ rfl (by rfl) ?_); (conv => whnf))))
            refine Nd.mk ⟨Nat.le_refl 1, rfl, rfl⟩ ?_
            (conv => whnf)
            refine AppN.grow 1 (dirsC l) (dirC ⟨c, false, (q : Int)⟩) rfl rfl ⟨Nat.le_refl 1, ⟨by show (l.length + 1) * 16 ≤ _; omega, by omega⟩, by show 3 ≠ 0; omega⟩ fun b' cap' h1 h2 => ?_
            ((conv => whnf); (repeat ((first | refine BoxN.own ?_ | refine RwN.own ?_ | refine VrN.norm (wrap_i64 (by omega)) ?_ | refine VrN.keep ?_ | refine DrawN.calm (by decide +kernel) ?_ | refine Nd.mk (by decide +kernel) ?_ | refine Nd.mk (by omega) ?_ | (refine Nd.mk ?_ ?_; focus ((repeat' (first | exact trivial | exact wkE_refl _ | refine And.intro ?_ ?_)); done)) | refine RdN.intro _ rfl (by rfl) ?_); (conv => whnf))))
            refine call1 (TrimSp_c ((r).dropWhile dig) _) ?_
            ((conv => whnf); (repeat ((first | refine BoxN.own ?_ | refine RwN.own ?_ | refine VrN.norm (wrap_i64 (by omega)) ?_ | refine VrN.keep ?_ | refine DrawN.calm (by decide +kernel) ?_ | refine Nd.mk (by decide +kernel) ?_ | refine Nd.mk (by omega) ?_ | (refine Nd.mk ?_ ?_; focus ((repeat' (first | exact trivial | exact wkE_refl _ | refine And.intro ?_ ?_)); done)) | refine RdN.intro _ rfl (by rfl) ?_); (conv => whnf))))
            refine ⟨(l ++ [⟨c, false, (q : Int)⟩], (((r).dropWhile dig)).dropWhile (· == 32), some b', cap'), ⟨?_, by rw [← hx, ext_next l hc ho], (fun h => by cases h), by simp; omega, (by have := (List.dropWhile_sublist (l := ((r).dropWhile dig)) fun x : UInt8 => x == 32).length_le; have := one_len ho; simp at this hlr ⊢; omega)⟩, ?_, ?_, ?_⟩
            · intro c' r' he
              exact drop_head he
            · refine Nat.lt_of_le_of_lt (List.dropWhile_sublist (l := ((r).dropWhile dig)) fun x : UInt8 => x == 32).length_le ?_
              have h5 := one_len ho
              first | (simp at h5 ⊢; omega) | (simp; done)
            · (repeat' (first | exact trivial | refine And.intro (by with_reducible rfl) ?_ | (with_reducible exact wkC_refl _) | (with_reducible exact wkCs_refl _) | refine And.intro ?_ ?_))
              all_goals simp [at0]
            · exact ⟨wkE_refl _, .inl ⟨rfl, rfl, by simp [dirsC], rfl, by simp, rfl⟩, wkH_nil _⟩
          · rw [if_neg (by rw [h6]; simp)] at ho
            ((conv => whnf); (repeat ((first | refine BoxN.own ?_ | refine RwN.own ?_ | refine VrN.norm (wrap_i64 (by omega)) ?_ | refine VrN.keep ?_ | refine DrawN.calm (by decide +kernel) ?_ | refine Nd.mk (by decide +kernel) ?_ | refine Nd.mk (by omega) ?_ | (refine Nd.mk ?_ ?_; focus ((repeat' (first | exact trivial | exact wkE_refl _ | refine And.intro ?_ ?_)); done)) | refine RdN.intro _ rfl (by rfl) ?_); (conv => whnf))))
            rw [← hx, ext_bad l hc ho]
            exact fin_v ⟨_, _, _, rfl⟩
        · have htw : (r).takeWhile dig = [] := List.eq_nil_of_length_eq_zero (by omega)
          have ho := one_bare hl hsg
          rw [cnt_none hst htw] at ho
          -- the directive d is put behind the others
          ((conv => whnf); (repeat ((first | refine BoxN.own ?_ | refine RwN.own ?_ | refine VrN.norm (wrap_i64 (by omega)) ?_ | refine VrN.keep ?_ | refine DrawN.calm (by decide +kernel) ?_ | refine Nd.mk (by decide +kernel) ?_ | refine Nd.mk (by omega) ?_ | (refine Nd.mk ?_ ?_; focus ((repeat' (first | exact trivial | exact wkE_refl _ | refine And.intro ?_ ?_)); done)) | refine RdN.intro _ rfl (by rfl) ?_); (conv => whnf))))
          refine Nd.mk ⟨Nat.le_refl 1, rfl, rfl⟩ ?_
          (conv => whnf)
          refine AppN.grow 1 (dirsC l) (dirC ⟨c, false, (-2)⟩) rfl rfl ⟨Nat.le_refl 1, ⟨by show (l.length + 1) * 16 ≤ _; omega, by omega⟩, by show 3 ≠ 0; omega⟩ fun b' cap' h1 h2 => ?_
          ((conv => whnf); (repeat ((first | refine BoxN.own ?_ | refine RwN.own ?_ | refine VrN.norm (wrap_i64 (by omega)) ?_ | refine VrN.keep ?_ | refine DrawN.calm (by decide +kernel) ?_ | refine Nd.mk (by decide +kernel) ?_ | refine Nd.mk (by omega) ?_ | (refine Nd.mk ?_ ?_; focus ((repeat' (first | exact trivial | exact wkE_refl _ | refine And.intro ?_ ?_)); done)) | refine RdN.intro _ rfl (by rfl) ?_); (conv => whnf))))
          refine call1 (TrimSp_c r _) ?_
          ((conv => whnf); (repeat ((first | refine BoxN.own ?_ | refine RwN.own ?_ | refine VrN.norm (wrap_i64 (by omega)) ?_ | refine VrN.keep ?_ | refine DrawN.calm (by decide +kernel) ?_ | refine Nd.mk (by decide +kernel) ?_ | refine Nd.mk (by omega) ?_ | (refine Nd.mk ?_ ?_; focus ((repeat' (first | exact trivial | exact wkE_refl _ | refine And.intro ?_ ?_)); done)) | refine RdN.intro _ rfl (by rfl) ?_); (conv => whnf))))
          refine ⟨(l ++ [⟨c, false, (-2)⟩], (r).dropWhile (· == 32), some b', cap'), ⟨?_, by rw [← hx, ext_next l hc ho], (fun h => by cases h), by simp; omega, (by have := (List.dropWhile_sublist (l := r) fun x : UInt8 => x == 32).length_le; have := one_len ho; simp at this hlr ⊢; omega)⟩, ?_, ?_, ?_⟩
          · intro c' r' he
            exact drop_head he
          · refine Nat.lt_of_le_of_lt (List.dropWhile_sublist (l := r) fun x : UInt8 => x == 32).length_le ?_
            have h5 := one_len ho
            first | (simp at h5 ⊢; omega) | (simp; done)
          · (repeat' (first | exact trivial | refine And.intro (by with_reducible rfl) ?_ | (with_reducible exact wkC_refl _) | (with_reducible exact wkCs_refl _) | refine And.intro ?_ ?_))
            all_goals simp [at0]
          · exact ⟨wkE_refl _, .inl ⟨rfl, rfl, by simp [dirsC], rfl, by simp, rfl⟩, wkH_nil _⟩
end Go.Proofs.YtjkchonpnocffaaDoor

/-
  Contract: the document's reader of forms.
-/
namespace Go.Proofs.YtjkchonpnocffaaDoor
open Go.AX Go.RowKit Go.Pack
set_option maxRecDepth 20000

theorem drop_at {s : List UInt8} {i : Nat} {c : UInt8} {r : List UInt8} (h : s.drop i = c :: r) : byteAt (bs s) i = (c.toNat : Int) ∧ i < s.length ∧ s.drop (i + 1) = r ∧ r.length + i + 1 = s.length := by
  have hl : i < s.length := by
    rcases Nat.lt_or_ge i s.length with h2 | h2
    · exact h2
    · rw [List.drop_eq_nil_iff.2 h2] at h; cases h
  have h2 := List.drop_eq_getElem_cons hl
  rw [h] at h2
  injection h2 with h3 h4
  refine ⟨byteAt_get (by rw [List.getElem?_eq_getElem hl, ← h3]), hl, h4.symm, ?_⟩
  have := congrArg List.length h
  simp at this
  omega
theorem drop_end {s : List UInt8} {i : Nat} (h : s.drop i = []) (hi : i ≤ s.length) : i = s.length := by
  have := List.drop_eq_nil_iff.1 h
  omega
end Go.Proofs.YtjkchonpnocffaaDoor

/-
  Contracts: the program's small functions of a directive.
-/
namespace Go.Proofs.YtjkchonpnocffaaDoor
open Go.AX Go.RowKit Go.Pack
set_option maxRecDepth 20000

def dirV (d : Dir) : Value := .agg #[.int .u8 (d.letter.toNat : Int), .bool d.big, .int .i64 d.count]
theorem isStr_eq (c : UInt8) : ([97, 65, 90, 72] : List UInt8).contains c = isStr c := by
  unfold isStr
  simp only [List.contains_cons, List.contains_nil, Bool.or_false, Bool.or_assoc]
theorem sg_eq (c : UInt8) : ([99, 115, 108, 113] : List UInt8).contains c = sg c := by
  unfold sg
  simp only [List.contains_cons, List.contains_nil, Bool.or_false, Bool.or_assoc]
theorem index_ge (l : List UInt8) (c : UInt8) : decide (Lib.indexByte l c ≥ 0) = l.contains c := by
  cases h : l.contains c with
  | false => exact decide_eq_false (by have := (index_lt l c).2 h; omega)
  | true =>
    exact decide_eq_true (by
      have h2 : ¬ Lib.indexByte l c < 0 := fun h2 => by rw [(index_lt l c).1 h2] at h; cases h
      omega)
theorem isString_c (d : Dir) : ∀ H, SpecH Tryd.prog 25 (pvs [dirV d]) H (Ret (.bool (isStr d.letter)) H) := by
  refine pureC hm Tryd.func25 (by kernel_rfl) rfl rfl ?_
  ((conv => whnf); (repeat ((first | refine BoxN.own ?_ | refine RwN.own ?_ | refine VrN.norm (wrap_i64 (by omega)) ?_ | refine VrN.keep ?_ | refine DrawN.calm (by decide +kernel) ?_ | refine Nd.mk (by decide +kernel) ?_ | refine Nd.mk (by omega) ?_ | (refine Nd.mk ?_ ?_; focus ((repeat' (first | exact trivial | exact wkE_refl _ | refine And.intro ?_ ?_)); done)) | refine RdN.intro _ rfl (by rfl) ?_); (conv => whnf))))
  refine call1 (IndexByte_c [97, 65, 90, 72] d.letter _) ?_
  ((conv => whnf); (repeat ((first | refine BoxN.own ?_ | refine RwN.own ?_ | refine VrN.norm (wrap_i64 (by omega)) ?_ | refine VrN.keep ?_ | refine DrawN.calm (by decide +kernel) ?_ | refine Nd.mk (by decide +kernel) ?_ | refine Nd.mk (by omega) ?_ | (refine Nd.mk ?_ ?_; focus ((repeat' (first | exact trivial | exact wkE_refl _ | refine And.intro ?_ ?_)); done)) | refine RdN.intro _ rfl (by rfl) ?_); (conv => whnf))))
  rw [index_ge, isStr_eq]
theorem signed_c (d : Dir) : ∀ H, SpecH Tryd.prog 105 (pvs [dirV d]) H (Ret (.bool (sg d.letter)) H) := by
  refine pureC hm Tryd.func105 (by kernel_rfl) rfl rfl ?_
  ((conv => whnf); (repeat ((first | refine BoxN.own ?_ | refine RwN.own ?_ | refine VrN.norm (wrap_i64 (by omega)) ?_ | refine VrN.keep ?_ | refine DrawN.calm (by decide +kernel) ?_ | refine Nd.mk (by decide +kernel) ?_ | refine Nd.mk (by omega) ?_ | (refine Nd.mk ?_ ?_; focus ((repeat' (first | exact trivial | exact wkE_refl _ | refine And.intro ?_ ?_)); done)) | refine RdN.intro _ rfl (by rfl) ?_); (conv => whnf))))
  refine call1 (IndexByte_c [99, 115, 108, 113] d.letter _) ?_
  ((conv => whnf); (repeat ((first | refine BoxN.own ?_ | refine RwN.own ?_ | refine VrN.norm (wrap_i64 (by omega)) ?_ | refine VrN.keep ?_ | refine DrawN.calm (by decide +kernel) ?_ | refine Nd.mk (by decide +kernel) ?_ | refine Nd.mk (by omega) ?_ | (refine Nd.mk ?_ ?_; focus ((repeat' (first | exact trivial | exact wkE_refl _ | refine And.intro ?_ ?_)); done)) | refine RdN.intro _ rfl (by rfl) ?_); (conv => whnf))))
  rw [index_ge, sg_eq]
theorem isPlace_c (d : Dir) : ∀ H, SpecH Tryd.prog 64 (pvs [dirV d]) H (Ret (.bool (isPl d.letter)) H) := by
  refine pureC hm Tryd.func64 (by kernel_rfl) rfl rfl ?_
  have h120 : ((d.letter.toNat : Int) == 120) = (d.letter == 120) := u8_eq (n := 120) (by decide)
  have h64 : ((d.letter.toNat : Int) == 64) = (d.letter == 64) := u8_eq (n := 64) (by decide)
  ((conv => whnf); (repeat ((first | refine BoxN.own ?_ | refine RwN.own ?_ | refine VrN.norm (wrap_i64 (by omega)) ?_ | refine VrN.keep ?_ | refine DrawN.calm (by decide +kernel) ?_ | refine Nd.mk (by decide +kernel) ?_ | refine Nd.mk (by omega) ?_ | (refine Nd.mk ?_ ?_; focus ((repeat' (first | exact trivial | exact wkE_refl _ | refine And.intro ?_ ?_)); done)) | refine RdN.intro _ rfl (by rfl) ?_); (conv => whnf))))
  rw [h120]
  unfold isPl
  cases d.letter == 120 with
  | true =>
    ((conv => whnf); (repeat ((first | refine BoxN.own ?_ | refine RwN.own ?_ | refine VrN.norm (wrap_i64 (by omega)) ?_ | refine VrN.keep ?_ | refine DrawN.calm (by decide +kernel) ?_ | refine Nd.mk (by decide +kernel) ?_ | refine Nd.mk (by omega) ?_ | (refine Nd.mk ?_ ?_; focus ((repeat' (first | exact trivial | exact wkE_refl _ | refine And.intro ?_ ?_)); done)) | refine RdN.intro _ rfl (by rfl) ?_); (conv => whnf))))
    rfl
  | false =>
    ((conv => whnf); (repeat ((first | refine BoxN.own ?_ | refine RwN.own ?_ | refine VrN.norm (wrap_i64 (by omega)) ?_ | refine VrN.keep ?_ | refine DrawN.calm (by decide +kernel) ?_ | refine Nd.mk (by decide +kernel) ?_ | refine Nd.mk (by omega) ?_ | (refine Nd.mk ?_ ?_; focus ((repeat' (first | exact trivial | exact wkE_refl _ | refine And.intro ?_ ?_)); done)) | refine RdN.intro _ rfl (by rfl) ?_); (conv => whnf))))
    rw [h64, Bool.false_or]
theorem high_c (d : Dir) : ∀ H, SpecH Tryd.prog 103 (pvs [dirV d]) H (Ret (.bool (hi d)) H) := by
  refine pureC hm Tryd.func103 (by kernel_rfl) rfl rfl ?_
  have h120 : ((d.letter.toNat : Int) == 110) = (d.letter == 110) := u8_eq (n := 110) (by decide)
  have h64 : ((d.letter.toNat : Int) == 78) = (d.letter == 78) := u8_eq (n := 78) (by decide)
  unfold hi
  ((conv => whnf); (repeat ((first | refine BoxN.own ?_ | refine RwN.own ?_ | refine VrN.norm (wrap_i64 (by omega)) ?_ | refine VrN.keep ?_ | refine DrawN.calm (by decide +kernel) ?_ | refine Nd.mk (by decide +kernel) ?_ | refine Nd.mk (by omega) ?_ | (refine Nd.mk ?_ ?_; focus ((repeat' (first | exact trivial | exact wkE_refl _ | refine And.intro ?_ ?_)); done)) | refine RdN.intro _ rfl (by rfl) ?_); (conv => whnf))))
  cases d.big with
  | true =>
    ((conv => whnf); (repeat ((first | refine BoxN.own ?_ | refine RwN.own ?_ | refine VrN.norm (wrap_i64 (by omega)) ?_ | refine VrN.keep ?_ | refine DrawN.calm (by decide +kernel) ?_ | refine Nd.mk (by decide +kernel) ?_ | refine Nd.mk (by omega) ?_ | (refine Nd.mk ?_ ?_; focus ((repeat' (first | exact trivial | exact wkE_refl _ | refine And.intro ?_ ?_)); done)) | refine RdN.intro _ rfl (by rfl) ?_); (conv => whnf))))
    rfl
  | false =>
    ((conv => whnf); (repeat ((first | refine BoxN.own ?_ | refine RwN.own ?_ | refine VrN.norm (wrap_i64 (by omega)) ?_ | refine VrN.keep ?_ | refine DrawN.calm (by decide +kernel) ?_ | refine Nd.mk (by decide +kernel) ?_ | refine Nd.mk (by omega) ?_ | (refine Nd.mk ?_ ?_; focus ((repeat' (first | exact trivial | exact wkE_refl _ | refine And.intro ?_ ?_)); done)) | refine RdN.intro _ rfl (by rfl) ?_); (conv => whnf))))
    rw [h120]
    cases d.letter == 110 with
    | true =>
      ((conv => whnf); (repeat ((first | refine BoxN.own ?_ | refine RwN.own ?_ | refine VrN.norm (wrap_i64 (by omega)) ?_ | refine VrN.keep ?_ | refine DrawN.calm (by decide +kernel) ?_ | refine Nd.mk (by decide +kernel) ?_ | refine Nd.mk (by omega) ?_ | (refine Nd.mk ?_ ?_; focus ((repeat' (first | exact trivial | exact wkE_refl _ | refine And.intro ?_ ?_)); done)) | refine RdN.intro _ rfl (by rfl) ?_); (conv => whnf))))
      rfl
    | false =>
      ((conv => whnf); (repeat ((first | refine BoxN.own ?_ | refine RwN.own ?_ | refine VrN.norm (wrap_i64 (by omega)) ?_ | refine VrN.keep ?_ | refine DrawN.calm (by decide +kernel) ?_ | refine Nd.mk (by decide +kernel) ?_ | refine Nd.mk (by omega) ?_ | (refine Nd.mk ?_ ?_; focus ((repeat' (first | exact trivial | exact wkE_refl _ | refine And.intro ?_ ?_)); done)) | refine RdN.intro _ rfl (by rfl) ?_); (conv => whnf))))
      rw [h64, Bool.false_or]
      rfl
end Go.Proofs.YtjkchonpnocffaaDoor

/-
  Contract: how many bytes a number of fixed size has (program).
-/
namespace Go.Proofs.YtjkchonpnocffaaDoor
open Go.AX Go.RowKit Go.Pack
set_option maxRecDepth 20000

theorem find_none {n : Int} : ∀ (es : List MapEntry) (i : Nat), es.all (fun e => match e.key with | .int .u8 m => !(n == m) | _ => false) = true → Instr.findNow (.int .u8) (.int .u8 n) es i = some none
  | [], _, _ => rfl
  | ⟨k, v, b⟩ :: es, i, h => by
    rw [List.all_cons, Bool.and_eq_true] at h
    obtain ⟨h1, h2⟩ := h
    have ih := find_none es (i + 1) h2
    unfold Instr.findNow
    split at h1
    · rename_i m hk
      have hkk : k = .int .u8 m := hk
      subst hkk
      have hnm : (n == m) = false := by simpa using h1
      simp only [Instr.sameNow, hnm, if_true]
      exact ih
    · cases h1
theorem bytes_c (d : Dir) : ∀ H, SpecH Tryd.prog 57 (pvs [dirV d]) H (Ret (.int .i64 (sz d.letter : Nat)) H) := by
  refine pureC hm Tryd.func57 (by kernel_rfl) rfl rfl ?_
  obtain ⟨c, b, n⟩ := d
  ((conv => whnf); (repeat ((first | refine BoxN.own ?_ | refine RwN.own ?_ | refine VrN.norm (wrap_i64 (by omega)) ?_ | refine VrN.keep ?_ | refine DrawN.calm (by decide +kernel) ?_ | refine Nd.mk (by decide +kernel) ?_ | refine Nd.mk (by omega) ?_ | (refine Nd.mk ?_ ?_; focus ((repeat' (first | exact trivial | exact wkE_refl _ | refine And.intro ?_ ?_)); done)) | refine RdN.intro _ rfl (by rfl) ?_); (conv => whnf))))
  refine EffW.mkMap rfl fun mb => ?_
  ((conv => whnf); (repeat ((first | refine BoxN.own ?_ | refine RwN.own ?_ | refine VrN.norm (wrap_i64 (by omega)) ?_ | refine VrN.keep ?_ | refine DrawN.calm (by decide +kernel) ?_ | refine Nd.mk (by decide +kernel) ?_ | refine Nd.mk (by omega) ?_ | (refine Nd.mk ?_ ?_; focus ((repeat' (first | exact trivial | exact wkE_refl _ | refine And.intro ?_ ?_)); done)) | refine RdN.intro _ rfl (by rfl) ?_); (conv => whnf))))
  refine EffW.putMap (kt := 5) (et := 3) (κ := .u8) 1 rfl (by kernel_rfl) (by kernel_rfl) rfl rfl rfl rfl rfl ?_
  ((conv => whnf); (repeat ((first | refine BoxN.own ?_ | refine RwN.own ?_ | refine VrN.norm (wrap_i64 (by omega)) ?_ | refine VrN.keep ?_ | refine DrawN.calm (by decide +kernel) ?_ | refine Nd.mk (by decide +kernel) ?_ | refine Nd.mk (by omega) ?_ | (refine Nd.mk ?_ ?_; focus ((repeat' (first | exact trivial | exact wkE_refl _ | refine And.intro ?_ ?_)); done)) | refine RdN.intro _ rfl (by rfl) ?_); (conv => whnf))))
  refine EffW.putMap (kt := 5) (et := 3) (κ := .u8) 1 rfl (by kernel_rfl) (by kernel_rfl) rfl rfl rfl rfl rfl ?_
  ((conv => whnf); (repeat ((first | refine BoxN.own ?_ | refine RwN.own ?_ | refine VrN.norm (wrap_i64 (by omega)) ?_ | refine VrN.keep ?_ | refine DrawN.calm (by decide +kernel) ?_ | refine Nd.mk (by decide +kernel) ?_ | refine Nd.mk (by omega) ?_ | (refine Nd.mk ?_ ?_; focus ((repeat' (first | exact trivial | exact wkE_refl _ | refine And.intro ?_ ?_)); done)) | refine RdN.intro _ rfl (by rfl) ?_); (conv => whnf))))
  refine EffW.putMap (kt := 5) (et := 3) (κ := .u8) 1 rfl (by kernel_rfl) (by kernel_rfl) rfl rfl rfl rfl rfl ?_
  ((conv => whnf); (repeat ((first | refine BoxN.own ?_ | refine RwN.own ?_ | refine VrN.norm (wrap_i64 (by omega)) ?_ | refine VrN.keep ?_ | refine DrawN.calm (by decide +kernel) ?_ | refine Nd.mk (by decide +kernel) ?_ | refine Nd.mk (by omega) ?_ | (refine Nd.mk ?_ ?_; focus ((repeat' (first | exact trivial | exact wkE_refl _ | refine And.intro ?_ ?_)); done)) | refine RdN.intro _ rfl (by rfl) ?_); (conv => whnf))))
  refine EffW.putMap (kt := 5) (et := 3) (κ := .u8) 1 rfl (by kernel_rfl) (by kernel_rfl) rfl rfl rfl rfl rfl ?_
  ((conv => whnf); (repeat ((first | refine BoxN.own ?_ | refine RwN.own ?_ | refine VrN.norm (wrap_i64 (by omega)) ?_ | refine VrN.keep ?_ | refine DrawN.calm (by decide +kernel) ?_ | refine Nd.mk (by decide +kernel) ?_ | refine Nd.mk (by omega) ?_ | (refine Nd.mk ?_ ?_; focus ((repeat' (first | exact trivial | exact wkE_refl _ | refine And.intro ?_ ?_)); done)) | refine RdN.intro _ rfl (by rfl) ?_); (conv => whnf))))
  refine EffW.putMap (kt := 5) (et := 3) (κ := .u8) 1 rfl (by kernel_rfl) (by kernel_rfl) rfl rfl rfl rfl rfl ?_
  ((conv => whnf); (repeat ((first | refine BoxN.own ?_ | refine RwN.own ?_ | refine VrN.norm (wrap_i64 (by omega)) ?_ | refine VrN.keep ?_ | refine DrawN.calm (by decide +kernel) ?_ | refine Nd.mk (by decide +kernel) ?_ | refine Nd.mk (by omega) ?_ | (refine Nd.mk ?_ ?_; focus ((repeat' (first | exact trivial | exact wkE_refl _ | refine And.intro ?_ ?_)); done)) | refine RdN.intro _ rfl (by rfl) ?_); (conv => whnf))))
  refine EffW.putMap (kt := 5) (et := 3) (κ := .u8) 1 rfl (by kernel_rfl) (by kernel_rfl) rfl rfl rfl rfl rfl ?_
  ((conv => whnf); (repeat ((first | refine BoxN.own ?_ | refine RwN.own ?_ | refine VrN.norm (wrap_i64 (by omega)) ?_ | refine VrN.keep ?_ | refine DrawN.calm (by decide +kernel) ?_ | refine Nd.mk (by decide +kernel) ?_ | refine Nd.mk (by omega) ?_ | (refine Nd.mk ?_ ?_; focus ((repeat' (first | exact trivial | exact wkE_refl _ | refine And.intro ?_ ?_)); done)) | refine RdN.intro _ rfl (by rfl) ?_); (conv => whnf))))
  refine EffW.putMap (kt := 5) (et := 3) (κ := .u8) 1 rfl (by kernel_rfl) (by kernel_rfl) rfl rfl rfl rfl rfl ?_
  ((conv => whnf); (repeat ((first | refine BoxN.own ?_ | refine RwN.own ?_ | refine VrN.norm (wrap_i64 (by omega)) ?_ | refine VrN.keep ?_ | refine DrawN.calm (by decide +kernel) ?_ | refine Nd.mk (by decide +kernel) ?_ | refine Nd.mk (by omega) ?_ | (refine Nd.mk ?_ ?_; focus ((repeat' (first | exact trivial | exact wkE_refl _ | refine And.intro ?_ ?_)); done)) | refine RdN.intro _ rfl (by rfl) ?_); (conv => whnf))))
  refine EffW.putMap (kt := 5) (et := 3) (κ := .u8) 1 rfl (by kernel_rfl) (by kernel_rfl) rfl rfl rfl rfl rfl ?_
  ((conv => whnf); (repeat ((first | refine BoxN.own ?_ | refine RwN.own ?_ | refine VrN.norm (wrap_i64 (by omega)) ?_ | refine VrN.keep ?_ | refine DrawN.calm (by decide +kernel) ?_ | refine Nd.mk (by decide +kernel) ?_ | refine Nd.mk (by omega) ?_ | (refine Nd.mk ?_ ?_; focus ((repeat' (first | exact trivial | exact wkE_refl _ | refine And.intro ?_ ?_)); done)) | refine RdN.intro _ rfl (by rfl) ?_); (conv => whnf))))
  refine EffW.putMap (kt := 5) (et := 3) (κ := .u8) 1 rfl (by kernel_rfl) (by kernel_rfl) rfl rfl rfl rfl rfl ?_
  ((conv => whnf); (repeat ((first | refine BoxN.own ?_ | refine RwN.own ?_ | refine VrN.norm (wrap_i64 (by omega)) ?_ | refine VrN.keep ?_ | refine DrawN.calm (by decide +kernel) ?_ | refine Nd.mk (by decide +kernel) ?_ | refine Nd.mk (by omega) ?_ | (refine Nd.mk ?_ ?_; focus ((repeat' (first | exact trivial | exact wkE_refl _ | refine And.intro ?_ ?_)); done)) | refine RdN.intro _ rfl (by rfl) ?_); (conv => whnf))))
  refine EffW.putMap (kt := 5) (et := 3) (κ := .u8) 1 rfl (by kernel_rfl) (by kernel_rfl) rfl rfl rfl rfl rfl ?_
  by_cases h67 : c = 67
  · subst h67
    ((conv => whnf); (repeat ((first | refine BoxN.own ?_ | refine RwN.own ?_ | refine VrN.norm (wrap_i64 (by omega)) ?_ | refine VrN.keep ?_ | refine DrawN.calm (by decide +kernel) ?_ | refine Nd.mk (by decide +kernel) ?_ | refine Nd.mk (by omega) ?_ | (refine Nd.mk ?_ ?_; focus ((repeat' (first | exact trivial | exact wkE_refl _ | refine And.intro ?_ ?_)); done)) | refine RdN.intro _ rfl (by rfl) ?_); (conv => whnf))))
    refine ReadW.getMap (kt := 5) (et := 3) (κ := .u8) (j := 0) rfl (by kernel_rfl) (by kernel_rfl) rfl rfl (fun w hw => hw.1) rfl ?_
    ((conv => whnf); (repeat ((first | refine BoxN.own ?_ | refine RwN.own ?_ | refine VrN.norm (wrap_i64 (by omega)) ?_ | refine VrN.keep ?_ | refine DrawN.calm (by decide +kernel) ?_ | refine Nd.mk (by decide +kernel) ?_ | refine Nd.mk (by omega) ?_ | (refine Nd.mk ?_ ?_; focus ((repeat' (first | exact trivial | exact wkE_refl _ | refine And.intro ?_ ?_)); done)) | refine RdN.intro _ rfl (by rfl) ?_); (conv => whnf))))
    rfl
  by_cases h99 : c = 99
  · subst h99
    ((conv => whnf); (repeat ((first | refine BoxN.own ?_ | refine RwN.own ?_ | refine VrN.norm (wrap_i64 (by omega)) ?_ | refine VrN.keep ?_ | refine DrawN.calm (by decide +kernel) ?_ | refine Nd.mk (by decide +kernel) ?_ | refine Nd.mk (by omega) ?_ | (refine Nd.mk ?_ ?_; focus ((repeat' (first | exact trivial | exact wkE_refl _ | refine And.intro ?_ ?_)); done)) | refine RdN.intro _ rfl (by rfl) ?_); (conv => whnf))))
    refine ReadW.getMap (kt := 5) (et := 3) (κ := .u8) (j := 1) rfl (by kernel_rfl) (by kernel_rfl) rfl rfl (fun w hw => hw.1) rfl ?_
    ((conv => whnf); (repeat ((first | refine BoxN.own ?_ | refine RwN.own ?_ | refine VrN.norm (wrap_i64 (by omega)) ?_ | refine VrN.keep ?_ | refine DrawN.calm (by decide +kernel) ?_ | refine Nd.mk (by decide +kernel) ?_ | refine Nd.mk (by omega) ?_ | (refine Nd.mk ?_ ?_; focus ((repeat' (first | exact trivial | exact wkE_refl _ | refine And.intro ?_ ?_)); done)) | refine RdN.intro _ rfl (by rfl) ?_); (conv => whnf))))
    rfl
  by_cases h83 : c = 83
  · subst h83
    ((conv => whnf); (repeat ((first | refine BoxN.own ?_ | refine RwN.own ?_ | refine VrN.norm (wrap_i64 (by omega)) ?_ | refine VrN.keep ?_ | refine DrawN.calm (by decide +kernel) ?_ | refine Nd.mk (by decide +kernel) ?_ | refine Nd.mk (by omega) ?_ | (refine Nd.mk ?_ ?_; focus ((repeat' (first | exact trivial | exact wkE_refl _ | refine And.intro ?_ ?_)); done)) | refine RdN.intro _ rfl (by rfl) ?_); (conv => whnf))))
    refine ReadW.getMap (kt := 5) (et := 3) (κ := .u8) (j := 2) rfl (by kernel_rfl) (by kernel_rfl) rfl rfl (fun w hw => hw.1) rfl ?_
    ((conv => whnf); (repeat ((first | refine BoxN.own ?_ | refine RwN.own ?_ | refine VrN.norm (wrap_i64 (by omega)) ?_ | refine VrN.keep ?_ | refine DrawN.calm (by decide +kernel) ?_ | refine Nd.mk (by decide +kernel) ?_ | refine Nd.mk (by omega) ?_ | (refine Nd.mk ?_ ?_; focus ((repeat' (first | exact trivial | exact wkE_refl _ | refine And.intro ?_ ?_)); done)) | refine RdN.intro _ rfl (by rfl) ?_); (conv => whnf))))
    rfl
  by_cases h115 : c = 115
  · subst h115
    ((conv => whnf); (repeat ((first | refine BoxN.own ?_ | refine RwN.own ?_ | refine VrN.norm (wrap_i64 (by omega)) ?_ | refine VrN.keep ?_ | refine DrawN.calm (by decide +kernel) ?_ | refine Nd.mk (by decide +kernel) ?_ | refine Nd.mk (by omega) ?_ | (refine Nd.mk ?_ ?_; focus ((repeat' (first | exact trivial | exact wkE_refl _ | refine And.intro ?_ ?_)); done)) | refine RdN.intro _ rfl (by rfl) ?_); (conv => whnf))))
    refine ReadW.getMap (kt := 5) (et := 3) (κ := .u8) (j := 3) rfl (by kernel_rfl) (by kernel_rfl) rfl rfl (fun w hw => hw.1) rfl ?_
    ((conv => whnf); (repeat ((first | refine BoxN.own ?_ | refine RwN.own ?_ | refine VrN.norm (wrap_i64 (by omega)) ?_ | refine VrN.keep ?_ | refine DrawN.calm (by decide +kernel) ?_ | refine Nd.mk (by decide +kernel) ?_ | refine Nd.mk (by omega) ?_ | (refine Nd.mk ?_ ?_; focus ((repeat' (first | exact trivial | exact wkE_refl _ | refine And.intro ?_ ?_)); done)) | refine RdN.intro _ rfl (by rfl) ?_); (conv => whnf))))
    rfl
  by_cases h110 : c = 110
  · subst h110
    ((conv => whnf); (repeat ((first | refine BoxN.own ?_ | refine RwN.own ?_ | refine VrN.norm (wrap_i64 (by omega)) ?_ | refine VrN.keep ?_ | refine DrawN.calm (by decide +kernel) ?_ | refine Nd.mk (by decide +kernel) ?_ | refine Nd.mk (by omega) ?_ | (refine Nd.mk ?_ ?_; focus ((repeat' (first | exact trivial | exact wkE_refl _ | refine And.intro ?_ ?_)); done)) | refine RdN.intro _ rfl (by rfl) ?_); (conv => whnf))))
    refine ReadW.getMap (kt := 5) (et := 3) (κ := .u8) (j := 4) rfl (by kernel_rfl) (by kernel_rfl) rfl rfl (fun w hw => hw.1) rfl ?_
    ((conv => whnf); (repeat ((first | refine BoxN.own ?_ | refine RwN.own ?_ | refine VrN.norm (wrap_i64 (by omega)) ?_ | refine VrN.keep ?_ | refine DrawN.calm (by decide +kernel) ?_ | refine Nd.mk (by decide +kernel) ?_ | refine Nd.mk (by omega) ?_ | (refine Nd.mk ?_ ?_; focus ((repeat' (first | exact trivial | exact wkE_refl _ | refine And.intro ?_ ?_)); done)) | refine RdN.intro _ rfl (by rfl) ?_); (conv => whnf))))
    rfl
  by_cases h76 : c = 76
  · subst h76
    ((conv => whnf); (repeat ((first | refine BoxN.own ?_ | refine RwN.own ?_ | refine VrN.norm (wrap_i64 (by omega)) ?_ | refine VrN.keep ?_ | refine DrawN.calm (by decide +kernel) ?_ | refine Nd.mk (by decide +kernel) ?_ | refine Nd.mk (by omega) ?_ | (refine Nd.mk ?_ ?_; focus ((repeat' (first | exact trivial | exact wkE_refl _ | refine And.intro ?_ ?_)); done)) | refine RdN.intro _ rfl (by rfl) ?_); (conv => whnf))))
    refine ReadW.getMap (kt := 5) (et := 3) (κ := .u8) (j := 5) rfl (by kernel_rfl) (by kernel_rfl) rfl rfl (fun w hw => hw.1) rfl ?_
    ((conv => whnf); (repeat ((first | refine BoxN.own ?_ | refine RwN.own ?_ | refine VrN.norm (wrap_i64 (by omega)) ?_ | refine VrN.keep ?_ | refine DrawN.calm (by decide +kernel) ?_ | refine Nd.mk (by decide +kernel) ?_ | refine Nd.mk (by omega) ?_ | (refine Nd.mk ?_ ?_; focus ((repeat' (first | exact trivial | exact wkE_refl _ | refine And.intro ?_ ?_)); done)) | refine RdN.intro _ rfl (by rfl) ?_); (conv => whnf))))
    rfl
  by_cases h108 : c = 108
  · subst h108
    ((conv => whnf); (repeat ((first | refine BoxN.own ?_ | refine RwN.own ?_ | refine VrN.norm (wrap_i64 (by omega)) ?_ | refine VrN.keep ?_ | refine DrawN.calm (by decide +kernel) ?_ | refine Nd.mk (by decide +kernel) ?_ | refine Nd.mk (by omega) ?_ | (refine Nd.mk ?_ ?_; focus ((repeat' (first | exact trivial | exact wkE_refl _ | refine And.intro ?_ ?_)); done)) | refine RdN.intro _ rfl (by rfl) ?_); (conv => whnf))))
    refine ReadW.getMap (kt := 5) (et := 3) (κ := .u8) (j := 6) rfl (by kernel_rfl) (by kernel_rfl) rfl rfl (fun w hw => hw.1) rfl ?_
    ((conv => whnf); (repeat ((first | refine BoxN.own ?_ | refine RwN.own ?_ | refine VrN.norm (wrap_i64 (by omega)) ?_ | refine VrN.keep ?_ | refine DrawN.calm (by decide +kernel) ?_ | refine Nd.mk (by decide +kernel) ?_ | refine Nd.mk (by omega) ?_ | (refine Nd.mk ?_ ?_; focus ((repeat' (first | exact trivial | exact wkE_refl _ | refine And.intro ?_ ?_)); done)) | refine RdN.intro _ rfl (by rfl) ?_); (conv => whnf))))
    rfl
  by_cases h78 : c = 78
  · subst h78
    ((conv => whnf); (repeat ((first | refine BoxN.own ?_ | refine RwN.own ?_ | refine VrN.norm (wrap_i64 (by omega)) ?_ | refine VrN.keep ?_ | refine DrawN.calm (by decide +kernel) ?_ | refine Nd.mk (by decide +kernel) ?_ | refine Nd.mk (by omega) ?_ | (refine Nd.mk ?_ ?_; focus ((repeat' (first | exact trivial | exact wkE_refl _ | refine And.intro ?_ ?_)); done)) | refine RdN.intro _ rfl (by rfl) ?_); (conv => whnf))))
    refine ReadW.getMap (kt := 5) (et := 3) (κ := .u8) (j := 7) rfl (by kernel_rfl) (by kernel_rfl) rfl rfl (fun w hw => hw.1) rfl ?_
    ((conv => whnf); (repeat ((first | refine BoxN.own ?_ | refine RwN.own ?_ | refine VrN.norm (wrap_i64 (by omega)) ?_ | refine VrN.keep ?_ | refine DrawN.calm (by decide +kernel) ?_ | refine Nd.mk (by decide +kernel) ?_ | refine Nd.mk (by omega) ?_ | (refine Nd.mk ?_ ?_; focus ((repeat' (first | exact trivial | exact wkE_refl _ | refine And.intro ?_ ?_)); done)) | refine RdN.intro _ rfl (by rfl) ?_); (conv => whnf))))
    rfl
  by_cases h81 : c = 81
  · subst h81
    ((conv => whnf); (repeat ((first | refine BoxN.own ?_ | refine RwN.own ?_ | refine VrN.norm (wrap_i64 (by omega)) ?_ | refine VrN.keep ?_ | refine DrawN.calm (by decide +kernel) ?_ | refine Nd.mk (by decide +kernel) ?_ | refine Nd.mk (by omega) ?_ | (refine Nd.mk ?_ ?_; focus ((repeat' (first | exact trivial | exact wkE_refl _ | refine And.intro ?_ ?_)); done)) | refine RdN.intro _ rfl (by rfl) ?_); (conv => whnf))))
    refine ReadW.getMap (kt := 5) (et := 3) (κ := .u8) (j := 8) rfl (by kernel_rfl) (by kernel_rfl) rfl rfl (fun w hw => hw.1) rfl ?_
    ((conv => whnf); (repeat ((first | refine BoxN.own ?_ | refine RwN.own ?_ | refine VrN.norm (wrap_i64 (by omega)) ?_ | refine VrN.keep ?_ | refine DrawN.calm (by decide +kernel) ?_ | refine Nd.mk (by decide +kernel) ?_ | refine Nd.mk (by omega) ?_ | (refine Nd.mk ?_ ?_; focus ((repeat' (first | exact trivial | exact wkE_refl _ | refine And.intro ?_ ?_)); done)) | refine RdN.intro _ rfl (by rfl) ?_); (conv => whnf))))
    rfl
  by_cases h113 : c = 113
  · subst h113
    ((conv => whnf); (repeat ((first | refine BoxN.own ?_ | refine RwN.own ?_ | refine VrN.norm (wrap_i64 (by omega)) ?_ | refine VrN.keep ?_ | refine DrawN.calm (by decide +kernel) ?_ | refine Nd.mk (by decide +kernel) ?_ | refine Nd.mk (by omega) ?_ | (refine Nd.mk ?_ ?_; focus ((repeat' (first | exact trivial | exact wkE_refl _ | refine And.intro ?_ ?_)); done)) | refine RdN.intro _ rfl (by rfl) ?_); (conv => whnf))))
    refine ReadW.getMap (kt := 5) (et := 3) (κ := .u8) (j := 9) rfl (by kernel_rfl) (by kernel_rfl) rfl rfl (fun w hw => hw.1) rfl ?_
    ((conv => whnf); (repeat ((first | refine BoxN.own ?_ | refine RwN.own ?_ | refine VrN.norm (wrap_i64 (by omega)) ?_ | refine VrN.keep ?_ | refine DrawN.calm (by decide +kernel) ?_ | refine Nd.mk (by decide +kernel) ?_ | refine Nd.mk (by omega) ?_ | (refine Nd.mk ?_ ?_; focus ((repeat' (first | exact trivial | exact wkE_refl _ | refine And.intro ?_ ?_)); done)) | refine RdN.intro _ rfl (by rfl) ?_); (conv => whnf))))
    rfl
  have nn : ∀ k : UInt8, ¬ c = k → c.toNat ≠ k.toNat := fun k h h2 => h (UInt8.toNat_inj.1 h2)
  have n67 : c.toNat ≠ 67 := nn 67 h67
  have n99 : c.toNat ≠ 99 := nn 99 h99
  have n83 : c.toNat ≠ 83 := nn 83 h83
  have n115 : c.toNat ≠ 115 := nn 115 h115
  have n110 : c.toNat ≠ 110 := nn 110 h110
  have n76 : c.toNat ≠ 76 := nn 76 h76
  have n108 : c.toNat ≠ 108 := nn 108 h108
  have n78 : c.toNat ≠ 78 := nn 78 h78
  have n81 : c.toNat ≠ 81 := nn 81 h81
  have n113 : c.toNat ≠ 113 := nn 113 h113
  obtain ⟨inf, hi1, hi2⟩ := Option.map_eq_some_iff.1 (show (Tryd.prog.info? 3).map (·.zero) = some (some (.int .i64 0)) by kernel_rfl)
  ((conv => whnf); (repeat ((first | refine BoxN.own ?_ | refine RwN.own ?_ | refine VrN.norm (wrap_i64 (by omega)) ?_ | refine VrN.keep ?_ | refine DrawN.calm (by decide +kernel) ?_ | refine Nd.mk (by decide +kernel) ?_ | refine Nd.mk (by omega) ?_ | (refine Nd.mk ?_ ?_; focus ((repeat' (first | exact trivial | exact wkE_refl _ | refine And.intro ?_ ?_)); done)) | refine RdN.intro _ rfl (by rfl) ?_); (conv => whnf))))
  refine ReadW.noMap (kt := 5) (et := 3) (κ := .u8) rfl (by kernel_rfl) (by kernel_rfl) hi1 hi2 rfl rfl (fun w hw => hw.1) ?_ ?_
  · exact find_none _ _ (by
      simp
      omega)
  · have hs : sz c = 0 := by simp [sz, h67, h99, h83, h115, h110, h76, h108, h78, h81, h113]
    show _
    rw [hs]
    ((conv => whnf); (repeat ((first | refine BoxN.own ?_ | refine RwN.own ?_ | refine VrN.norm (wrap_i64 (by omega)) ?_ | refine VrN.keep ?_ | refine DrawN.calm (by decide +kernel) ?_ | refine Nd.mk (by decide +kernel) ?_ | refine Nd.mk (by omega) ?_ | (refine Nd.mk ?_ ?_; focus ((repeat' (first | exact trivial | exact wkE_refl _ | refine And.intro ?_ ?_)); done)) | refine RdN.intro _ rfl (by rfl) ?_); (conv => whnf))))
    rfl
end Go.Proofs.YtjkchonpnocffaaDoor

/-
  Contracts: a number fits; a hex digit (program).
-/
namespace Go.Proofs.YtjkchonpnocffaaDoor
open Go.AX Go.RowKit Go.Pack
set_option maxRecDepth 20000

theorem sz_cases {c : UInt8} (h : sz c ≠ 0) : c = 67 ∨ c = 99 ∨ c = 83 ∨ c = 115 ∨ c = 110 ∨ c = 76 ∨ c = 108 ∨ c = 78 ∨ c = 81 ∨ c = 113 := by
  unfold sz at h
  split at h
  · rename_i h1; simp at h1; rcases h1 with h1 | h1 <;> simp [h1]
  split at h
  · rename_i h1; simp at h1; rcases h1 with (h1 | h1) | h1 <;> simp [h1]
  split at h
  · rename_i h1; simp at h1; rcases h1 with (h1 | h1) | h1 <;> simp [h1]
  split at h
  · rename_i h1; simp at h1; rcases h1 with h1 | h1 <;> simp [h1]
  · exact absurd rfl h
theorem bytes_l (c : UInt8) (k : Nat) (h : sz c = k) (b : Bool) (n : Int) : ∀ H, SpecH Tryd.prog 57 (pvs [.agg #[.int .u8 (c.toNat : Int), .bool b, .int .i64 n]]) H (Ret (.int .i64 (k : Nat)) H) := by
  subst h
  exact bytes_c ⟨c, b, n⟩
theorem signed_l (c : UInt8) (k : Bool) (h : sg c = k) (b : Bool) (n : Int) : ∀ H, SpecH Tryd.prog 105 (pvs [.agg #[.int .u8 (c.toNat : Int), .bool b, .int .i64 n]]) H (Ret (.bool k) H) := by
  subst h
  exact signed_c ⟨c, b, n⟩
theorem fits_c (c : UInt8) (b : Bool) (k n : Int) (h : sz c ≠ 0) : ∀ H, SpecH Tryd.prog 110 (pvs [.agg #[.int .u8 (c.toNat : Int), .bool b, .int .i64 k], .int .i64 n]) H (Ret (.bool (fit c n)) H) := by
  refine pureC hm Tryd.func110 (by kernel_rfl) rfl rfl ?_
  rcases sz_cases h with rfl | rfl | rfl | rfl | rfl | rfl | rfl | rfl | rfl | rfl
  · ((conv => whnf); (repeat ((first | refine BoxN.own ?_ | refine RwN.own ?_ | refine VrN.norm (wrap_i64 (by omega)) ?_ | refine VrN.keep ?_ | refine DrawN.calm (by decide +kernel) ?_ | refine Nd.mk (by decide +kernel) ?_ | refine Nd.mk (by omega) ?_ | (refine Nd.mk ?_ ?_; focus ((repeat' (first | exact trivial | exact wkE_refl _ | refine And.intro ?_ ?_)); done)) | refine RdN.intro _ rfl (by rfl) ?_); (conv => whnf))))
    refine call1 (bytes_l 67 1 rfl b k _) ?_
    ((conv => whnf); (repeat ((first | refine BoxN.own ?_ | refine RwN.own ?_ | refine VrN.norm (wrap_i64 (by omega)) ?_ | refine VrN.keep ?_ | refine DrawN.calm (by decide +kernel) ?_ | refine Nd.mk (by decide +kernel) ?_ | refine Nd.mk (by omega) ?_ | (refine Nd.mk ?_ ?_; focus ((repeat' (first | exact trivial | exact wkE_refl _ | refine And.intro ?_ ?_)); done)) | refine RdN.intro _ rfl (by rfl) ?_); (conv => whnf))))
    refine call1 (signed_l 67 false rfl b k _) ?_
    ((conv => whnf); (repeat ((first | refine BoxN.own ?_ | refine RwN.own ?_ | refine VrN.norm (wrap_i64 (by omega)) ?_ | refine VrN.keep ?_ | refine DrawN.calm (by decide +kernel) ?_ | refine Nd.mk (by decide +kernel) ?_ | refine Nd.mk (by omega) ?_ | (refine Nd.mk ?_ ?_; focus ((repeat' (first | exact trivial | exact wkE_refl _ | refine And.intro ?_ ?_)); done)) | refine RdN.intro _ rfl (by rfl) ?_); (conv => whnf))))
    refine brd_dec (fun h1 => ?_) (fun h1 => ?_)
    · ((conv => whnf); (repeat ((first | refine BoxN.own ?_ | refine RwN.own ?_ | refine VrN.norm (wrap_i64 (by omega)) ?_ | refine VrN.keep ?_ | refine DrawN.calm (by decide +kernel) ?_ | refine Nd.mk (by decide +kernel) ?_ | refine Nd.mk (by omega) ?_ | (refine Nd.mk ?_ ?_; focus ((repeat' (first | exact trivial | exact wkE_refl _ | refine And.intro ?_ ?_)); done)) | refine RdN.intro _ rfl (by rfl) ?_); (conv => whnf))))
      rw [show fit 67 n = (decide (0 ≤ n) && decide (n < 256)) from rfl, decide_eq_true h1]
      rfl
    · ((conv => whnf); (repeat ((first | refine BoxN.own ?_ | refine RwN.own ?_ | refine VrN.norm (wrap_i64 (by omega)) ?_ | refine VrN.keep ?_ | refine DrawN.calm (by decide +kernel) ?_ | refine Nd.mk (by decide +kernel) ?_ | refine Nd.mk (by omega) ?_ | (refine Nd.mk ?_ ?_; focus ((repeat' (first | exact trivial | exact wkE_refl _ | refine And.intro ?_ ?_)); done)) | refine RdN.intro _ rfl (by rfl) ?_); (conv => whnf))))
      rw [show fit 67 n = (decide (0 ≤ n) && decide (n < 256)) from rfl, decide_eq_false h1]
      rfl
  · ((conv => whnf); (repeat ((first | refine BoxN.own ?_ | refine RwN.own ?_ | refine VrN.norm (wrap_i64 (by omega)) ?_ | refine VrN.keep ?_ | refine DrawN.calm (by decide +kernel) ?_ | refine Nd.mk (by decide +kernel) ?_ | refine Nd.mk (by omega) ?_ | (refine Nd.mk ?_ ?_; focus ((repeat' (first | exact trivial | exact wkE_refl _ | refine And.intro ?_ ?_)); done)) | refine RdN.intro _ rfl (by rfl) ?_); (conv => whnf))))
    refine call1 (bytes_l 99 1 rfl b k _) ?_
    ((conv => whnf); (repeat ((first | refine BoxN.own ?_ | refine RwN.own ?_ | refine VrN.norm (wrap_i64 (by omega)) ?_ | refine VrN.keep ?_ | refine DrawN.calm (by decide +kernel) ?_ | refine Nd.mk (by decide +kernel) ?_ | refine Nd.mk (by omega) ?_ | (refine Nd.mk ?_ ?_; focus ((repeat' (first | exact trivial | exact wkE_refl _ | refine And.intro ?_ ?_)); done)) | refine RdN.intro _ rfl (by rfl) ?_); (conv => whnf))))
    refine call1 (signed_l 99 true rfl b k _) ?_
    ((conv => whnf); (repeat ((first | refine BoxN.own ?_ | refine RwN.own ?_ | refine VrN.norm (wrap_i64 (by omega)) ?_ | refine VrN.keep ?_ | refine DrawN.calm (by decide +kernel) ?_ | refine Nd.mk (by decide +kernel) ?_ | refine Nd.mk (by omega) ?_ | (refine Nd.mk ?_ ?_; focus ((repeat' (first | exact trivial | exact wkE_refl _ | refine And.intro ?_ ?_)); done)) | refine RdN.intro _ rfl (by rfl) ?_); (conv => whnf))))
    rw [show IntKind.i64.wrap (-1 * 2 ^ min (IntKind.i64.wrap (8 * ((1 : Nat) : Int) - 1)).toNat IntKind.i64.bits) = -128 from rfl]
    refine brd_dec (fun h1 => ?_) (fun h1 => ?_)
    · ((conv => whnf); (repeat ((first | refine BoxN.own ?_ | refine RwN.own ?_ | refine VrN.norm (wrap_i64 (by omega)) ?_ | refine VrN.keep ?_ | refine DrawN.calm (by decide +kernel) ?_ | refine Nd.mk (by decide +kernel) ?_ | refine Nd.mk (by omega) ?_ | (refine Nd.mk ?_ ?_; focus ((repeat' (first | exact trivial | exact wkE_refl _ | refine And.intro ?_ ?_)); done)) | refine RdN.intro _ rfl (by rfl) ?_); (conv => whnf))))
      rw [show fit 99 n = (decide (-128 ≤ n) && decide (n < 128)) from rfl, decide_eq_true h1]
      rfl
    · ((conv => whnf); (repeat ((first | refine BoxN.own ?_ | refine RwN.own ?_ | refine VrN.norm (wrap_i64 (by omega)) ?_ | refine VrN.keep ?_ | refine DrawN.calm (by decide +kernel) ?_ | refine Nd.mk (by decide +kernel) ?_ | refine Nd.mk (by omega) ?_ | (refine Nd.mk ?_ ?_; focus ((repeat' (first | exact trivial | exact wkE_refl _ | refine And.intro ?_ ?_)); done)) | refine RdN.intro _ rfl (by rfl) ?_); (conv => whnf))))
      rw [show fit 99 n = (decide (-128 ≤ n) && decide (n < 128)) from rfl, decide_eq_false h1]
      rfl
  · ((conv => whnf); (repeat ((first | refine BoxN.own ?_ | refine RwN.own ?_ | refine VrN.norm (wrap_i64 (by omega)) ?_ | refine VrN.keep ?_ | refine DrawN.calm (by decide +kernel) ?_ | refine Nd.mk (by decide +kernel) ?_ | refine Nd.mk (by omega) ?_ | (refine Nd.mk ?_ ?_; focus ((repeat' (first | exact trivial | exact wkE_refl _ | refine And.intro ?_ ?_)); done)) | refine RdN.intro _ rfl (by rfl) ?_); (conv => whnf))))
    refine call1 (bytes_l 83 2 rfl b k _) ?_
    ((conv => whnf); (repeat ((first | refine BoxN.own ?_ | refine RwN.own ?_ | refine VrN.norm (wrap_i64 (by omega)) ?_ | refine VrN.keep ?_ | refine DrawN.calm (by decide +kernel) ?_ | refine Nd.mk (by decide +kernel) ?_ | refine Nd.mk (by omega) ?_ | (refine Nd.mk ?_ ?_; focus ((repeat' (first | exact trivial | exact wkE_refl _ | refine And.intro ?_ ?_)); done)) | refine RdN.intro _ rfl (by rfl) ?_); (conv => whnf))))
    refine call1 (signed_l 83 false rfl b k _) ?_
    ((conv => whnf); (repeat ((first | refine BoxN.own ?_ | refine RwN.own ?_ | refine VrN.norm (wrap_i64 (by omega)) ?_ | refine VrN.keep ?_ | refine DrawN.calm (by decide +kernel) ?_ | refine Nd.mk (by decide +kernel) ?_ | refine Nd.mk (by omega) ?_ | (refine Nd.mk ?_ ?_; focus ((repeat' (first | exact trivial | exact wkE_refl _ | refine And.intro ?_ ?_)); done)) | refine RdN.intro _ rfl (by rfl) ?_); (conv => whnf))))
    refine brd_dec (fun h1 => ?_) (fun h1 => ?_)
    · ((conv => whnf); (repeat ((first | refine BoxN.own ?_ | refine RwN.own ?_ | refine VrN.norm (wrap_i64 (by omega)) ?_ | refine VrN.keep ?_ | refine DrawN.calm (by decide +kernel) ?_ | refine Nd.mk (by decide +kernel) ?_ | refine Nd.mk (by omega) ?_ | (refine Nd.mk ?_ ?_; focus ((repeat' (first | exact trivial | exact wkE_refl _ | refine And.intro ?_ ?_)); done)) | refine RdN.intro _ rfl (by rfl) ?_); (conv => whnf))))
      rw [show fit 83 n = (decide (0 ≤ n) && decide (n < 65536)) from rfl, decide_eq_true h1]
      rfl
    · ((conv => whnf); (repeat ((first | refine BoxN.own ?_ | refine RwN.own ?_ | refine VrN.norm (wrap_i64 (by omega)) ?_ | refine VrN.keep ?_ | refine DrawN.calm (by decide +kernel) ?_ | refine Nd.mk (by decide +kernel) ?_ | refine Nd.mk (by omega) ?_ | (refine Nd.mk ?_ ?_; focus ((repeat' (first | exact trivial | exact wkE_refl _ | refine And.intro ?_ ?_)); done)) | refine RdN.intro _ rfl (by rfl) ?_); (conv => whnf))))
      rw [show fit 83 n = (decide (0 ≤ n) && decide (n < 65536)) from rfl, decide_eq_false h1]
      rfl
  · ((conv => whnf); (repeat ((first | refine BoxN.own ?_ | refine RwN.own ?_ | refine VrN.norm (wrap_i64 (by omega)) ?_ | refine VrN.keep ?_ | refine DrawN.calm (by decide +kernel) ?_ | refine Nd.mk (by decide +kernel) ?_ | refine Nd.mk (by omega) ?_ | (refine Nd.mk ?_ ?_; focus ((repeat' (first | exact trivial | exact wkE_refl _ | refine And.intro ?_ ?_)); done)) | refine RdN.intro _ rfl (by rfl) ?_); (conv => whnf))))
    refine call1 (bytes_l 115 2 rfl b k _) ?_
    ((conv => whnf); (repeat ((first | refine BoxN.own ?_ | refine RwN.own ?_ | refine VrN.norm (wrap_i64 (by omega)) ?_ | refine VrN.keep ?_ | refine DrawN.calm (by decide +kernel) ?_ | refine Nd.mk (by decide +kernel) ?_ | refine Nd.mk (by omega) ?_ | (refine Nd.mk ?_ ?_; focus ((repeat' (first | exact trivial | exact wkE_refl _ | refine And.intro ?_ ?_)); done)) | refine RdN.intro _ rfl (by rfl) ?_); (conv => whnf))))
    refine call1 (signed_l 115 true rfl b k _) ?_
    ((conv => whnf); (repeat ((first | refine BoxN.own ?_ | refine RwN.own ?_ | refine VrN.norm (wrap_i64 (by omega)) ?_ | refine VrN.keep ?_ | refine DrawN.calm (by decide +kernel) ?_ | refine Nd.mk (by decide +kernel) ?_ | refine Nd.mk (by omega) ?_ | (refine Nd.mk ?_ ?_; focus ((repeat' (first | exact trivial | exact wkE_refl _ | refine And.intro ?_ ?_)); done)) | refine RdN.intro _ rfl (by rfl) ?_); (conv => whnf))))
    rw [show IntKind.i64.wrap (-1 * 2 ^ min (IntKind.i64.wrap (8 * ((2 : Nat) : Int) - 1)).toNat IntKind.i64.bits) = -32768 from rfl]
    refine brd_dec (fun h1 => ?_) (fun h1 => ?_)
    · ((conv => whnf); (repeat ((first | refine BoxN.own ?_ | refine RwN.own ?_ | refine VrN.norm (wrap_i64 (by omega)) ?_ | refine VrN.keep ?_ | refine DrawN.calm (by decide +kernel) ?_ | refine Nd.mk (by decide +kernel) ?_ | refine Nd.mk (by omega) ?_ | (refine Nd.mk ?_ ?_; focus ((repeat' (first | exact trivial | exact wkE_refl _ | refine And.intro ?_ ?_)); done)) | refine RdN.intro _ rfl (by rfl) ?_); (conv => whnf))))
      rw [show fit 115 n = (decide (-32768 ≤ n) && decide (n < 32768)) from rfl, decide_eq_true h1]
      rfl
    · ((conv => whnf); (repeat ((first | refine BoxN.own ?_ | refine RwN.own ?_ | refine VrN.norm (wrap_i64 (by omega)) ?_ | refine VrN.keep ?_ | refine DrawN.calm (by decide +kernel) ?_ | refine Nd.mk (by decide +kernel) ?_ | refine Nd.mk (by omega) ?_ | (refine Nd.mk ?_ ?_; focus ((repeat' (first | exact trivial | exact wkE_refl _ | refine And.intro ?_ ?_)); done)) | refine RdN.intro _ rfl (by rfl) ?_); (conv => whnf))))
      rw [show fit 115 n = (decide (-32768 ≤ n) && decide (n < 32768)) from rfl, decide_eq_false h1]
      rfl
  · ((conv => whnf); (repeat ((first | refine BoxN.own ?_ | refine RwN.own ?_ | refine VrN.norm (wrap_i64 (by omega)) ?_ | refine VrN.keep ?_ | refine DrawN.calm (by decide +kernel) ?_ | refine Nd.mk (by decide +kernel) ?_ | refine Nd.mk (by omega) ?_ | (refine Nd.mk ?_ ?_; focus ((repeat' (first | exact trivial | exact wkE_refl _ | refine And.intro ?_ ?_)); done)) | refine RdN.intro _ rfl (by rfl) ?_); (conv => whnf))))
    refine call1 (bytes_l 110 2 rfl b k _) ?_
    ((conv => whnf); (repeat ((first | refine BoxN.own ?_ | refine RwN.own ?_ | refine VrN.norm (wrap_i64 (by omega)) ?_ | refine VrN.keep ?_ | refine DrawN.calm (by decide +kernel) ?_ | refine Nd.mk (by decide +kernel) ?_ | refine Nd.mk (by omega) ?_ | (refine Nd.mk ?_ ?_; focus ((repeat' (first | exact trivial | exact wkE_refl _ | refine And.intro ?_ ?_)); done)) | refine RdN.intro _ rfl (by rfl) ?_); (conv => whnf))))
    refine call1 (signed_l 110 false rfl b k _) ?_
    ((conv => whnf); (repeat ((first | refine BoxN.own ?_ | refine RwN.own ?_ | refine VrN.norm (wrap_i64 (by omega)) ?_ | refine VrN.keep ?_ | refine DrawN.calm (by decide +kernel) ?_ | refine Nd.mk (by decide +kernel) ?_ | refine Nd.mk (by omega) ?_ | (refine Nd.mk ?_ ?_; focus ((repeat' (first | exact trivial | exact wkE_refl _ | refine And.intro ?_ ?_)); done)) | refine RdN.intro _ rfl (by rfl) ?_); (conv => whnf))))
    refine brd_dec (fun h1 => ?_) (fun h1 => ?_)
    · ((conv => whnf); (repeat ((first | refine BoxN.own ?_ | refine RwN.own ?_ | refine VrN.norm (wrap_i64 (by omega)) ?_ | refine VrN.keep ?_ | refine DrawN.calm (by decide +kernel) ?_ | refine Nd.mk (by decide +kernel) ?_ | refine Nd.mk (by omega) ?_ | (refine Nd.mk ?_ ?_; focus ((repeat' (first | exact trivial | exact wkE_refl _ | refine And.intro ?_ ?_)); done)) | refine RdN.intro _ rfl (by rfl) ?_); (conv => whnf))))
      rw [show fit 110 n = (decide (0 ≤ n) && decide (n < 65536)) from rfl, decide_eq_true h1]
      rfl
    · ((conv => whnf); (repeat ((first | refine BoxN.own ?_ | refine RwN.own ?_ | refine VrN.norm (wrap_i64 (by omega)) ?_ | refine VrN.keep ?_ | refine DrawN.calm (by decide +kernel) ?_ | refine Nd.mk (by decide +kernel) ?_ | refine Nd.mk (by omega) ?_ | (refine Nd.mk ?_ ?_; focus ((repeat' (first | exact trivial | exact wkE_refl _ | refine And.intro ?_ ?_)); done)) | refine RdN.intro _ rfl (by rfl) ?_); (conv => whnf))))
      rw [show fit 110 n = (decide (0 ≤ n) && decide (n < 65536)) from rfl, decide_eq_false h1]
      rfl
  · ((conv => whnf); (repeat ((first | refine BoxN.own ?_ | refine RwN.own ?_ | refine VrN.norm (wrap_i64 (by omega)) ?_ | refine VrN.keep ?_ | refine DrawN.calm (by decide +kernel) ?_ | refine Nd.mk (by decide +kernel) ?_ | refine Nd.mk (by omega) ?_ | (refine Nd.mk ?_ ?_; focus ((repeat' (first | exact trivial | exact wkE_refl _ | refine And.intro ?_ ?_)); done)) | refine RdN.intro _ rfl (by rfl) ?_); (conv => whnf))))
    refine call1 (bytes_l 76 4 rfl b k _) ?_
    ((conv => whnf); (repeat ((first | refine BoxN.own ?_ | refine RwN.own ?_ | refine VrN.norm (wrap_i64 (by omega)) ?_ | refine VrN.keep ?_ | refine DrawN.calm (by decide +kernel) ?_ | refine Nd.mk (by decide +kernel) ?_ | refine Nd.mk (by omega) ?_ | (refine Nd.mk ?_ ?_; focus ((repeat' (first | exact trivial | exact wkE_refl _ | refine And.intro ?_ ?_)); done)) | refine RdN.intro _ rfl (by rfl) ?_); (conv => whnf))))
    refine call1 (signed_l 76 false rfl b k _) ?_
    ((conv => whnf); (repeat ((first | refine BoxN.own ?_ | refine RwN.own ?_ | refine VrN.norm (wrap_i64 (by omega)) ?_ | refine VrN.keep ?_ | refine DrawN.calm (by decide +kernel) ?_ | refine Nd.mk (by decide +kernel) ?_ | refine Nd.mk (by omega) ?_ | (refine Nd.mk ?_ ?_; focus ((repeat' (first | exact trivial | exact wkE_refl _ | refine And.intro ?_ ?_)); done)) | refine RdN.intro _ rfl (by rfl) ?_); (conv => whnf))))
    refine brd_dec (fun h1 => ?_) (fun h1 => ?_)
    · ((conv => whnf); (repeat ((first | refine BoxN.own ?_ | refine RwN.own ?_ | refine VrN.norm (wrap_i64 (by omega)) ?_ | refine VrN.keep ?_ | refine DrawN.calm (by decide +kernel) ?_ | refine Nd.mk (by decide +kernel) ?_ | refine Nd.mk (by omega) ?_ | (refine Nd.mk ?_ ?_; focus ((repeat' (first | exact trivial | exact wkE_refl _ | refine And.intro ?_ ?_)); done)) | refine RdN.intro _ rfl (by rfl) ?_); (conv => whnf))))
      rw [show fit 76 n = (decide (0 ≤ n) && decide (n < 4294967296)) from rfl, decide_eq_true h1]
      rfl
    · ((conv => whnf); (repeat ((first | refine BoxN.own ?_ | refine RwN.own ?_ | refine VrN.norm (wrap_i64 (by omega)) ?_ | refine VrN.keep ?_ | refine DrawN.calm (by decide +kernel) ?_ | refine Nd.mk (by decide +kernel) ?_ | refine Nd.mk (by omega) ?_ | (refine Nd.mk ?_ ?_; focus ((repeat' (first | exact trivial | exact wkE_refl _ | refine And.intro ?_ ?_)); done)) | refine RdN.intro _ rfl (by rfl) ?_); (conv => whnf))))
      rw [show fit 76 n = (decide (0 ≤ n) && decide (n < 4294967296)) from rfl, decide_eq_false h1]
      rfl
  · ((conv => whnf); (repeat ((first | refine BoxN.own ?_ | refine RwN.own ?_ | refine VrN.norm (wrap_i64 (by omega)) ?_ | refine VrN.keep ?_ | refine DrawN.calm (by decide +kernel) ?_ | refine Nd.mk (by decide +kernel) ?_ | refine Nd.mk (by omega) ?_ | (refine Nd.mk ?_ ?_; focus ((repeat' (first | exact trivial | exact wkE_refl _ | refine And.intro ?_ ?_)); done)) | refine RdN.intro _ rfl (by rfl) ?_); (conv => whnf))))
    refine call1 (bytes_l 108 4 rfl b k _) ?_
    ((conv => whnf); (repeat ((first | refine BoxN.own ?_ | refine RwN.own ?_ | refine VrN.norm (wrap_i64 (by omega)) ?_ | refine VrN.keep ?_ | refine DrawN.calm (by decide +kernel) ?_ | refine Nd.mk (by decide +kernel) ?_ | refine Nd.mk (by omega) ?_ | (refine Nd.mk ?_ ?_; focus ((repeat' (first | exact trivial | exact wkE_refl _ | refine And.intro ?_ ?_)); done)) | refine RdN.intro _ rfl (by rfl) ?_); (conv => whnf))))
    refine call1 (signed_l 108 true rfl b k _) ?_
    ((conv => whnf); (repeat ((first | refine BoxN.own ?_ | refine RwN.own ?_ | refine VrN.norm (wrap_i64 (by omega)) ?_ | refine VrN.keep ?_ | refine DrawN.calm (by decide +kernel) ?_ | refine Nd.mk (by decide +kernel) ?_ | refine Nd.mk (by omega) ?_ | (refine Nd.mk ?_ ?_; focus ((repeat' (first | exact trivial | exact wkE_refl _ | refine And.intro ?_ ?_)); done)) | refine RdN.intro _ rfl (by rfl) ?_); (conv => whnf))))
    rw [show IntKind.i64.wrap (-1 * 2 ^ min (IntKind.i64.wrap (8 * ((4 : Nat) : Int) - 1)).toNat IntKind.i64.bits) = -2147483648 from rfl]
    refine brd_dec (fun h1 => ?_) (fun h1 => ?_)
    · ((conv => whnf); (repeat ((first | refine BoxN.own ?_ | refine RwN.own ?_ | refine VrN.norm (wrap_i64 (by omega)) ?_ | refine VrN.keep ?_ | refine DrawN.calm (by decide +kernel) ?_ | refine Nd.mk (by decide +kernel) ?_ | refine Nd.mk (by omega) ?_ | (refine Nd.mk ?_ ?_; focus ((repeat' (first | exact trivial | exact wkE_refl _ | refine And.intro ?_ ?_)); done)) | refine RdN.intro _ rfl (by rfl) ?_); (conv => whnf))))
      rw [show fit 108 n = (decide (-2147483648 ≤ n) && decide (n < 2147483648)) from rfl, decide_eq_true h1]
      rfl
    · ((conv => whnf); (repeat ((first | refine BoxN.own ?_ | refine RwN.own ?_ | refine VrN.norm (wrap_i64 (by omega)) ?_ | refine VrN.keep ?_ | refine DrawN.calm (by decide +kernel) ?_ | refine Nd.mk (by decide +kernel) ?_ | refine Nd.mk (by omega) ?_ | (refine Nd.mk ?_ ?_; focus ((repeat' (first | exact trivial | exact wkE_refl _ | refine And.intro ?_ ?_)); done)) | refine RdN.intro _ rfl (by rfl) ?_); (conv => whnf))))
      rw [show fit 108 n = (decide (-2147483648 ≤ n) && decide (n < 2147483648)) from rfl, decide_eq_false h1]
      rfl
  · ((conv => whnf); (repeat ((first | refine BoxN.own ?_ | refine RwN.own ?_ | refine VrN.norm (wrap_i64 (by omega)) ?_ | refine VrN.keep ?_ | refine DrawN.calm (by decide +kernel) ?_ | refine Nd.mk (by decide +kernel) ?_ | refine Nd.mk (by omega) ?_ | (refine Nd.mk ?_ ?_; focus ((repeat' (first | exact trivial | exact wkE_refl _ | refine And.intro ?_ ?_)); done)) | refine RdN.intro _ rfl (by rfl) ?_); (conv => whnf))))
    refine call1 (bytes_l 78 4 rfl b k _) ?_
    ((conv => whnf); (repeat ((first | refine BoxN.own ?_ | refine RwN.own ?_ | refine VrN.norm (wrap_i64 (by omega)) ?_ | refine VrN.keep ?_ | refine DrawN.calm (by decide +kernel) ?_ | refine Nd.mk (by decide +kernel) ?_ | refine Nd.mk (by omega) ?_ | (refine Nd.mk ?_ ?_; focus ((repeat' (first | exact trivial | exact wkE_refl _ | refine And.intro ?_ ?_)); done)) | refine RdN.intro _ rfl (by rfl) ?_); (conv => whnf))))
    refine call1 (signed_l 78 false rfl b k _) ?_
    ((conv => whnf); (repeat ((first | refine BoxN.own ?_ | refine RwN.own ?_ | refine VrN.norm (wrap_i64 (by omega)) ?_ | refine VrN.keep ?_ | refine DrawN.calm (by decide +kernel) ?_ | refine Nd.mk (by decide +kernel) ?_ | refine Nd.mk (by omega) ?_ | (refine Nd.mk ?_ ?_; focus ((repeat' (first | exact trivial | exact wkE_refl _ | refine And.intro ?_ ?_)); done)) | refine RdN.intro _ rfl (by rfl) ?_); (conv => whnf))))
    refine brd_dec (fun h1 => ?_) (fun h1 => ?_)
    · ((conv => whnf); (repeat ((first | refine BoxN.own ?_ | refine RwN.own ?_ | refine VrN.norm (wrap_i64 (by omega)) ?_ | refine VrN.keep ?_ | refine DrawN.calm (by decide +kernel) ?_ | refine Nd.mk (by decide +kernel) ?_ | refine Nd.mk (by omega) ?_ | (refine Nd.mk ?_ ?_; focus ((repeat' (first | exact trivial | exact wkE_refl _ | refine And.intro ?_ ?_)); done)) | refine RdN.intro _ rfl (by rfl) ?_); (conv => whnf))))
      rw [show fit 78 n = (decide (0 ≤ n) && decide (n < 4294967296)) from rfl, decide_eq_true h1]
      rfl
    · ((conv => whnf); (repeat ((first | refine BoxN.own ?_ | refine RwN.own ?_ | refine VrN.norm (wrap_i64 (by omega)) ?_ | refine VrN.keep ?_ | refine DrawN.calm (by decide +kernel) ?_ | refine Nd.mk (by decide +kernel) ?_ | refine Nd.mk (by omega) ?_ | (refine Nd.mk ?_ ?_; focus ((repeat' (first | exact trivial | exact wkE_refl _ | refine And.intro ?_ ?_)); done)) | refine RdN.intro _ rfl (by rfl) ?_); (conv => whnf))))
      rw [show fit 78 n = (decide (0 ≤ n) && decide (n < 4294967296)) from rfl, decide_eq_false h1]
      rfl
  · ((conv => whnf); (repeat ((first | refine BoxN.own ?_ | refine RwN.own ?_ | refine VrN.norm (wrap_i64 (by omega)) ?_ | refine VrN.keep ?_ | refine DrawN.calm (by decide +kernel) ?_ | refine Nd.mk (by decide +kernel) ?_ | refine Nd.mk (by omega) ?_ | (refine Nd.mk ?_ ?_; focus ((repeat' (first | exact trivial | exact wkE_refl _ | refine And.intro ?_ ?_)); done)) | refine RdN.intro _ rfl (by rfl) ?_); (conv => whnf))))
    refine call1 (bytes_l 81 8 rfl b k _) ?_
    ((conv => whnf); (repeat ((first | refine BoxN.own ?_ | refine RwN.own ?_ | refine VrN.norm (wrap_i64 (by omega)) ?_ | refine VrN.keep ?_ | refine DrawN.calm (by decide +kernel) ?_ | refine Nd.mk (by decide +kernel) ?_ | refine Nd.mk (by omega) ?_ | (refine Nd.mk ?_ ?_; focus ((repeat' (first | exact trivial | exact wkE_refl _ | refine And.intro ?_ ?_)); done)) | refine RdN.intro _ rfl (by rfl) ?_); (conv => whnf))))
    rfl
  · ((conv => whnf); (repeat ((first | refine BoxN.own ?_ | refine RwN.own ?_ | refine VrN.norm (wrap_i64 (by omega)) ?_ | refine VrN.keep ?_ | refine DrawN.calm (by decide +kernel) ?_ | refine Nd.mk (by decide +kernel) ?_ | refine Nd.mk (by omega) ?_ | (refine Nd.mk ?_ ?_; focus ((repeat' (first | exact trivial | exact wkE_refl _ | refine And.intro ?_ ?_)); done)) | refine RdN.intro _ rfl (by rfl) ?_); (conv => whnf))))
    refine call1 (bytes_l 113 8 rfl b k _) ?_
    ((conv => whnf); (repeat ((first | refine BoxN.own ?_ | refine RwN.own ?_ | refine VrN.norm (wrap_i64 (by omega)) ?_ | refine VrN.keep ?_ | refine DrawN.calm (by decide +kernel) ?_ | refine Nd.mk (by decide +kernel) ?_ | refine Nd.mk (by omega) ?_ | (refine Nd.mk ?_ ?_; focus ((repeat' (first | exact trivial | exact wkE_refl _ | refine And.intro ?_ ?_)); done)) | refine RdN.intro _ rfl (by rfl) ?_); (conv => whnf))))
    rfl
end Go.Proofs.YtjkchonpnocffaaDoor

/-
  Plain Lean: turned in place.
-/
namespace Go.Pack
/-- i bytes at either end are turned. -/
def sw (l : B) (i : Nat) : B := (List.range l.length).map fun k => if k < i ∨ l.length ≤ k + i then l.getD (l.length - 1 - k) 0 else l.getD k 0
theorem sw_len (l : B) (i : Nat) : (sw l i).length = l.length := by simp [sw]
theorem sw_get (l : B) (i k : Nat) (h : k < l.length) : (sw l i)[k]? = some (if k < i ∨ l.length ≤ k + i then l.getD (l.length - 1 - k) 0 else l.getD k 0) := by
  simp [sw, h]
theorem sw_zero (l : B) : sw l 0 = l := by
  apply List.ext_getElem?
  intro k
  rcases Nat.lt_or_ge k l.length with h | h
  · rw [sw_get l 0 k h, if_neg (by omega)]
    simp [List.getD, h]
  · rw [List.getElem?_eq_none (by rw [sw_len]; exact h), List.getElem?_eq_none h]
theorem sw_end (l : B) (i : Nat) (hi : l.length ≤ 2 * i + 1) : sw l i = l.reverse := by
  apply List.ext_getElem?
  intro k
  rcases Nat.lt_or_ge k l.length with h | h
  · rw [sw_get l i k h, List.getElem?_reverse h]
    have hk : l.length - 1 - k < l.length := by omega
    by_cases h2 : k < i ∨ l.length ≤ k + i
    · rw [if_pos h2]
      simp [List.getD, List.getElem?_eq_getElem hk]
    · rw [if_neg h2]
      have : k = l.length - 1 - k := by omega
      rw [← this]
      simp [List.getD, h]
  · rw [List.getElem?_eq_none (by rw [sw_len]; exact h), List.getElem?_eq_none (by simpa using h)]
theorem sw_step (l : B) (i : Nat) (hi : i < l.length - 1 - i) : ((sw l i).set i (l.getD (l.length - 1 - i) 0)).set (l.length - 1 - i) (l.getD i 0) = sw l (i + 1) := by
  apply List.ext_getElem?
  intro k
  rcases Nat.lt_or_ge k l.length with h | h
  · rw [sw_get l (i + 1) k h, List.getElem?_set, List.getElem?_set]
    simp only [List.length_set, sw_len]
    by_cases h1 : l.length - 1 - i = k
    · rw [if_pos h1, if_pos (by omega), if_pos (by omega)]
      congr 2
      omega
    · rw [if_neg h1]
      by_cases h2 : i = k
      · rw [if_pos h2, if_pos (by omega), if_pos (by omega), h2]
      · rw [if_neg h2, sw_get l i k h]
        by_cases h3 : k < i ∨ l.length ≤ k + i
        · rw [if_pos h3, if_pos (by omega)]
        · rw [if_neg h3, if_neg (by omega)]
  · rw [List.getElem?_eq_none (by simp [sw_len]; exact h), List.getElem?_eq_none (by rw [sw_len]; exact h)]
end Go.Pack
