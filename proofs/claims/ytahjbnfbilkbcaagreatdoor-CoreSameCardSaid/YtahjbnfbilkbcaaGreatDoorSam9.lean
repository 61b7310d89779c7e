/-
  Lemmas (Ax53 Z1 Z2 Z3 P13 Z4 P14 P15 G1 P18 E2 Y1 Y2 Z5 E3 Z6 Z7 Z8 Z9 E4 E5 E10 Ax57 E11 E12 E13 E6).
-/
import Derived.Test.YtahjbnfbilkbcaaGreatDoorSam8
set_option linter.unusedVariables false
set_option linter.unusedSimpArgs false
/-
  AX, fifty-third text: maps with numbers as keys, as lists of pairs: asked, written.
-/
namespace Go.AX

def seek {α : Type} [DecidableEq α] (k : α) : List (α × Value) → Nat → Option (Nat × Value)
  | [], _ => none
  | (q, v) :: R, i => if k = q then some (i, v) else seek k R (i + 1)
def upd {α : Type} [DecidableEq α] (k : α) (v : Value) : List (α × Value) → List (α × Value)
  | [] => [(k, v)]
  | (q, x) :: R => if k = q then (q, v) :: R else (q, x) :: upd k v R
theorem seek_look {α : Type} [DecidableEq α] (k : α) : ∀ (R : List (α × Value)) (i : Nat), (seek k R i).map Prod.snd = R.lookup k
  | [], _ => rfl
  | (q, v) :: R, i => by
    unfold seek
    rw [List.lookup_cons]
    by_cases h : k = q
    · subst h
      rw [if_pos rfl, beq_self_eq_true]
      rfl
    · rw [if_neg h, show (k == q) = false by simp [h]]
      exact seek_look k R (i + 1)
theorem look_upd {α : Type} [DecidableEq α] (k j : α) (v : Value) : ∀ R : List (α × Value), (upd k v R).lookup j = if j = k then some v else R.lookup j
  | [] => by
    unfold upd
    rw [List.lookup_cons]
    by_cases h : j = k
    · subst h; simp
    · rw [if_neg h, show (j == k) = false by simp [h]]
  | (q, x) :: R => by
    unfold upd
    have ih := look_upd k j v R
    by_cases h : k = q
    · subst h
      rw [if_pos rfl, List.lookup_cons, List.lookup_cons]
      by_cases h2 : j = k
      · subst h2; simp
      · rw [if_neg h2, show (j == k) = false by simp [h2]]
    · rw [if_neg h, List.lookup_cons, List.lookup_cons, ih]
      by_cases h2 : j = q
      · subst h2
        rw [beq_self_eq_true]
        simp only
        rw [if_neg (fun e => h e.symm)]
      · rw [show (j == q) = false by simp [h2]]
theorem seek_ge {α : Type} [DecidableEq α] (k : α) : ∀ (R : List (α × Value)) (i j : Nat) (v : Value), seek k R i = some (j, v) → i ≤ j
  | [], _, _, _, h => by cases h
  | (q, x) :: R, i, j, v, h => by
    unfold seek at h
    split at h
    · cases h; exact Nat.le_refl _
    · have := seek_ge k R (i + 1) j v h; omega
/-- What a map holds; its keys are told by enc. -/
def KeysAre {α : Type} (enc : α → Value) (es : List MapEntry) (R : List (α × Value)) : Prop := es.map (fun e => (e.key, e.val)) = R.map fun r => (enc r.1, r.2)
section
variable {α : Type} [DecidableEq α] {enc : α → Value}
theorem KeysAre.put {k : α} {v : Value} {born : Nat} : ∀ {es : List MapEntry} {R : List (α × Value)} {i : Nat}, KeysAre enc es R → seek k R i = none → KeysAre enc (es ++ [{ key := enc k, val := v, born := born }]) (upd k v R)
  | [], [], _, _, _ => rfl
  | [], _ :: _, _, h, _ => by cases h
  | _ :: _, [], _, h, _ => by cases h
  | e :: es, (q, x) :: R, i, h, hs => by
    unfold KeysAre at h
    simp only [List.map_cons, List.cons.injEq] at h
    unfold seek at hs
    split at hs
    · cases hs
    · rename_i hk
      have ih := KeysAre.put (v := v) (born := born) (es := es) (R := R) h.2 hs
      unfold upd
      rw [if_neg hk]
      unfold KeysAre at ih ⊢
      rw [List.cons_append, List.map_cons, List.map_cons, ih, h.1]
theorem KeysAre.set {k : α} {v : Value} : ∀ {es : List MapEntry} {R : List (α × Value)} {i j : Nat} {x : Value}, KeysAre enc es R → seek k R i = some (i + j, x) → KeysAre enc (es.modify j fun e => { e with key := enc k, val := v }) (upd k v R) ∧ ∃ e, es[j]? = some e ∧ e.key = enc k
  | [], [], _, _, _, _, hs => by cases hs
  | [], _ :: _, _, _, _, h, _ => by cases h
  | _ :: _, [], _, _, _, h, _ => by cases h
  | e :: es, (q, y) :: R, i, j, x, h, hs => by
    unfold KeysAre at h
    simp only [List.map_cons, List.cons.injEq] at h
    unfold seek at hs
    unfold upd
    split at hs
    · rename_i hk
      subst hk
      simp only [Option.some.injEq, Prod.mk.injEq] at hs
      obtain rfl : j = 0 := by omega
      rw [if_pos rfl]
      refine ⟨?_, e, rfl, congrArg Prod.fst h.1⟩
      unfold KeysAre
      show _ :: List.map _ es = _ :: _
      rw [h.2]
    · rename_i hk
      have hge := seek_ge k R (i + 1) (i + j) x hs
      obtain ⟨j, rfl⟩ : ∃ j2, j = j2 + 1 := ⟨j - 1, by omega⟩
      obtain ⟨h1, e2, h2, h3⟩ := KeysAre.set (v := v) (es := es) (R := R) (i := i + 1) (j := j) (x := x) h.2 (by rw [hs]; congr 2; omega)
      rw [if_neg hk]
      refine ⟨?_, e2, h2, h3⟩
      unfold KeysAre at h1 ⊢
      rw [show List.modify (e :: es) (j + 1) (fun e => { e with key := enc k, val := v }) = e :: List.modify es j (fun e => { e with key := enc k, val := v }) from rfl, List.map_cons, List.map_cons, h1, h.1]
end
/-- What is asked of a type of keys. -/
structure KeyT (P : Program) (kt : TypeId) {α : Type} [DecidableEq α] (enc : α → Value) : Prop where
  check : ∀ (w : World) (e : Bool) (k : α), (Instr.checkKey e 10000 kt (enc k)).run P w = .ok () w
  find : ∀ (w : World) (k : α) (es : List MapEntry) (R : List (α × Value)), KeysAre enc es R → (Instr.findKey kt (enc k) es).run P w = .ok (seek k R 0) w
  stay : ∀ (w : World) (k : α), (Instr.keyThatStays (enc k) (enc k)).run P w = .ok (enc k) w
theorem findNow_seek {κ : IntKind} (k : Int) : ∀ (es : List MapEntry) (R : List (Int × Value)) (i : Nat), KeysAre (fun k => .int κ k) es R → Instr.findNow (.int κ) (.int κ k) es i = some (seek k R i)
  | [], [], _, _ => rfl
  | [], _ :: _, _, h => by cases h
  | _ :: _, [], _, h => by cases h
  | e :: es, (q, x) :: R, i, h => by
    unfold KeysAre at h
    simp only [List.map_cons, List.cons.injEq, Prod.mk.injEq] at h
    have ih := findNow_seek k es R (i + 1) h.2
    unfold seek
    rw [Instr.findNow, h.1.1]
    by_cases hk : k = q
    · subst hk
      simp [Instr.sameNow, h.1.2]
    · have hb : (k == q) = false := by simp [hk]
      simp [Instr.sameNow, hb, hk, ih]
theorem intKeyT {P : Program} {kt : TypeId} {κ : IntKind} (h : P.underlying kt = some (.int κ)) : KeyT P kt (fun k : Int => .int κ k) where
  check := fun w e k => MapKept.run_checkKey (k := .int κ k) h (by simp [MapKept.IsKey]) e 9999
  find := fun w k es R hr => MapKept.run_findKey h (findNow_seek k es R 0 hr)
  stay := fun w k => MapKept.run_keyThatStays (d := .int κ) (k := .int κ k) (by simp [MapKept.IsKey])
section
variable {P : Program} {o : Oper} {s : List AV} {H : List Ent} {t kt et : TypeId} {m k : Operand} {b c : Nat} {es : Array MapEntry} {α : Type} [DecidableEq α] {enc : α → Value} {p : α}
/-- m[k] -/
theorem ReadW.keyMap {K : AV → Prop} {inf : TypeInfo} {z : Value} (R : List (α × Value)) (ho : o.op = .lookup t m k false) (ht : P.underlying t = some (.map kt et)) (hkt : KeyT P kt enc) (hi : P.info? et = some inf) (hz : inf.zero = some z)
    (hm : opv s m = .c (.v (.map (some b)))) (hk : opv s k = .c (.v (enc p))) (hF : ∀ w, Facts H w → w.heap[b]? = some (.map es c)) (hf : KeysAre enc es.toList R) (h : K (.c (.v ((R.lookup p).getD z)))) : ReadW P o s H K :=
  ReadW.val ((R.lookup p).getD z) (fun cs b e => by rw [ho] at e; cases e) (by rw [ho]; show allPlain s [m, k] = true; simp [allPlain, hm, hk]) (fun w hw => by
    have hb := hF w hw
    have hc := hkt.check w es.isEmpty p
    have hj := hkt.find w p es.toList R hf
    have hlk := seek_look p R 0
    have hrun : (Instr.lookup t (.map (some b)) (enc p) false).run P w = .ok ((R.lookup p).getD z) w := by
      cases hr : seek p R 0 with
      | none => rw [hr] at hj hlk; rw [← hlk]; simp [Instr.lookup, run_underlying ht, MapKept.run_getObj_map hb, hc, hj, Result.andThen, run_zeroValue hi hz]
      | some q => rw [hr] at hj hlk; rw [← hlk]; simp [Instr.lookup, run_underlying ht, MapKept.run_getObj_map hb, hc, hj, Result.andThen]
    unfold execOp
    simp only [ho, plainEv_v hm, plainEv_v hk, Sem.run_bind, hrun, Result.andThen_ok, Sem.run_pure]) h
/-- m[k] = v -/
theorem EffW.setMap {K : AV → List Ent → Prop} {x : Operand} {val : Value} (i : Nat) (R : List (α × Value)) (ho : o.op = .mapUpdate t m k x) (ht : P.underlying t = some (.map kt et)) (hkt : KeyT P kt enc)
    (hm : opv s m = .c (.v (.map (some b)))) (hk : opv s k = .c (.v (enc p))) (hx : opv s x = .c (.v val)) (hi : nthE H i = some (.mp b es c)) (hf : KeysAre enc es.toList R)
    (next : ∀ es' c', KeysAre enc es'.toList (upd p val R) → setEK H i (.mp b es' c') fun H' => K (.c .any) H') : EffW P o s H K := by
  rw [nthE_eq] at hi
  obtain ⟨es', c', hnew, hrun⟩ : ∃ es' c', KeysAre enc es'.toList (upd p val R) ∧ ∀ w : World, w.heap[b]? = some (.map es c) → (Instr.mapUpdate t (.map (some b)) (enc p) val).run P w = .ok () { w with heap := w.heap.setIfInBounds b (.map es' c') } := by
    cases hr : seek p R 0 with
    | none =>
      refine ⟨es.push { key := enc p, val := val, born := c }, c + 1, by rw [Array.toList_push]; exact hf.put hr, fun w hb => ?_⟩
      have hj := hkt.find w p es.toList R hf
      rw [hr] at hj
      simp [Instr.mapUpdate, run_underlying ht, MapKept.run_getObj_map hb, hkt.check w false p, hj, MapKept.run_setObj_map _ hb, Result.andThen]
    | some q =>
      obtain ⟨j, v0⟩ := q
      obtain ⟨h1, e, h2, h3⟩ := hf.set (v := val) (i := 0) (j := j) (x := v0) (by rw [Nat.zero_add]; exact hr)
      refine ⟨es.modify j fun e => { e with key := enc p, val := val }, c, by rw [Array.toList_modify]; exact h1, fun w hb => ?_⟩
      have hj := hkt.find w p es.toList R hf
      rw [hr] at hj
      have h2' : es[j]? = some e := by rw [← h2]; simp
      have hst : (Instr.keyThatStays (((es[j]?).map (·.key)).getD (enc p)) (enc p)).run P w = .ok (enc p) w := by
        rw [h2']
        show (Instr.keyThatStays e.key (enc p)).run P w = _
        rw [h3]
        exact hkt.stay w p
      simp only [Instr.mapUpdate, Sem.run_bind, run_underlying ht, Result.andThen_ok, MapKept.run_getObj_map hb, hkt.check w false p, hj, hst, MapKept.run_setObj_map _ hb]
  obtain ⟨_, hk2⟩ := setEK_spec (next es' c' hnew)
  refine Effs.w (fun ρ S w a hs hr => ?_) hk2
  have h1 : a.eval m = .map (some b) := by have := opv_rel hr m; rw [hm] at this; exact this
  have h2 : a.eval k = enc p := by have := opv_rel hr k; rw [hk] at this; exact this
  have h3 : a.eval x = val := by have := opv_rel hr x; rw [hx] at this; exact this
  have hb : w.heap[b]? = some (.map es c) := hs.ent i _ hi
  have hbl : b < w.heap.size := (Array.getElem?_eq_some_iff.1 hb).1
  have hS := hs.setG (e' := .mp b es' c') (c := b) (w' := { w with heap := w.heap.setIfInBounds b (.map es' c') }) hi rfl (by simp) (fun j _ hne => by simp [Ne.symm hne]) rfl rfl rfl (fun _ hc => .inl (Option.some.inj hc).symm) (by show (w.heap.setIfInBounds b _)[b]? = _; simp [hbl])
  refine ⟨.skip, undef, ρ, _, ?_, .inr ⟨rfl, rfl⟩, hS.1, hS.2, trivial⟩
  unfold execOp
  simp only [ho, h1, h2, h3, Sem.run_bind, Sem.run_pure, hrun w hb, Result.andThen_ok]
end
end Go.AX

/-
  Contract: what is reached (program).
-/
namespace Go.Core
def seenI (L : List Int) : List (Int × Value) := L.map fun i => (i, .bool true)
theorem seenI_get (L : List Int) (i : Int) : ((seenI L).lookup i).getD (.bool false) = .bool (decide (i ∈ L)) := by
  unfold seenI
  induction L with
  | nil => rfl
  | cons q R ih =>
    rw [List.map_cons, List.lookup_cons]
    by_cases h : i = q
    · subst h
      rw [beq_self_eq_true]
      simp
    · rw [show (i == q) = false by simp [h], ih]
      simp [h]
theorem seenI_put {L : List Int} {i : Int} (h : ¬ i ∈ L) : Go.AX.upd i (.bool true) (seenI L) = seenI (L ++ [i]) := by
  unfold seenI
  induction L with
  | nil => rfl
  | cons q R ih =>
    simp only [List.mem_cons, not_or] at h
    rw [List.map_cons, Go.AX.upd, if_neg h.1, ih h.2]
    rfl
theorem foldl_take {β : Type} {f : β → Int → β} {l : List Int} {k : Nat} {x : Int} {b : β} (h : l[k]? = some x) : (l.take (k + 1)).foldl f b = f ((l.take k).foldl f b) x := by
  rw [List.take_add_one, h, List.foldl_append]
  rfl
theorem reach_sub (g : List Cell) : ∀ (n : Nat) (L : List Int) (i x : Int), x ∈ L → x ∈ reachF g n L i
  | 0, _, _, _, h => h
  | n + 1, L, i, x, h => by
    have hf : ∀ (ks L : List Int), x ∈ L → x ∈ ks.foldl (reachF g n) L := by
      intro ks
      induction ks with
      | nil => exact fun _ h => h
      | cons k ks ih => exact fun L h => ih _ (reach_sub g n L k x h)
    unfold reachF
    split
    · exact h
    · exact hf _ _ (by simp [h])
theorem fold_sub (g : List Cell) (n : Nat) (x : Int) : ∀ (ks L : List Int), x ∈ L → x ∈ ks.foldl (reachF g n) L
  | [], _, h => h
  | k :: ks, L, h => fold_sub g n x ks _ (reach_sub g n L k x h)
theorem fold_len {g : List Cell} {f : List Int → Int → List Int} (hf : ∀ L k, InI g k → (f L k).length + freeN g (f L k) ≤ L.length + freeN g L) : ∀ (ks L : List Int), (∀ k ∈ ks, InI g k) → (ks.foldl f L).length + freeN g (ks.foldl f L) ≤ L.length + freeN g L
  | [], _, _ => Nat.le_refl _
  | k :: ks, L, h => Nat.le_trans (fold_len hf ks (f L k) fun x hx => h x (by simp [hx])) (hf L k (h k (by simp)))
theorem reach_len {g : List Cell} (hg : InG g) : ∀ (n : Nat) (L : List Int) (i : Int), InI g i → (reachF g n L i).length + freeN g (reachF g n L i) ≤ L.length + freeN g L
  | 0, _, _, _ => Nat.le_refl _
  | n + 1, L, i, hi => by
    unfold reachF
    split
    · exact Nat.le_refl _
    · rename_i hm
      have h1 := fold_len (g := g) (fun L k hk => reach_len hg n L k hk) (outs g i) (L ++ [i]) (fun k hk => outs_in hg hi hk)
      have h2 := free_lt hi hm (t := L ++ [i]) (fun x hx => by simp [hx]) (by simp)
      simp only [List.length_append, List.length_cons, List.length_nil] at h1
      omega
end Go.Core
namespace Go.Proofs.YtahjbnfbilkbcaaGreatDoor
open Go.AX Go.RowKit Go.Core
set_option maxRecDepth 20000

theorem intT : KeyT Tryz.prog 3 (fun k : Int => .int .i64 k) := intKeyT (by kernel_rfl)
/-- What the closure knows. -/
def rcF (a : Option Addr) (ca : Nat) (l : List CellP) (sb ob gb fb mb : Nat) (w : World) : Prop :=
  GrF a l w ∧ SlAt (some ⟨sb, 0, none⟩) 1 [.map (some mb)] w ∧ SlAt (some ⟨gb, 0, none⟩) 1 [.slice a l.length ca] w ∧ SlAt (some ⟨fb, 0, none⟩) 1 [.func (.func 107) #[] #[.pointer (some ⟨sb, 0, none⟩), .pointer (some ⟨ob, 0, none⟩), .pointer (some ⟨gb, 0, none⟩), .pointer (some ⟨fb, 0, none⟩)]] w
def rcA (i : Int) (sb ob gb fb : Nat) : List AV := pvs [.int .i64 i, .pointer (some ⟨sb, 0, none⟩), .pointer (some ⟨ob, 0, none⟩), .pointer (some ⟨gb, 0, none⟩), .pointer (some ⟨fb, 0, none⟩)]
structure WSt where
  es : Array MapEntry
  c : Nat
  o : BSt
def WSt.ok (L : List Int) (st : WSt) : Prop := KeysAre (fun k : Int => .int .i64 k) st.es.toList (seenI L) ∧ st.o.ok L.length
def rcH (F : World → Prop) (mb ob : Nat) (L : List Int) (st : WSt) : List Ent := [.mp mb st.es st.c, .app 35 1 [.slice (at0 st.o.ob) L.length st.o.cap] (some ⟨ob, 0, none⟩) 1 1, .app 3 1 (iC L) (at0 st.o.ob) L.length st.o.cap, .fact F]
theorem rcH_ok (F : World → Prop) (mb ob : Nat) (L : List Int) (st : WSt) : okH (rcH F mb ob L st).length (rcH F mb ob L st) := okHB_eq rfl
set_option maxHeartbeats 4000000 in
theorem rwalk_c (a : Option Addr) (ca : Nat) (l : List CellP) (ha : a = none → l = []) (hs : Small l) (hok : ∀ p ∈ l, CellOk p) (hg : InG (l.map (·.c))) (sb ob gb fb mb : Nat) : ∀ (n : Nat) (L : List Int) (st : WSt) (i : Int), InI (l.map (·.c)) i → freeN (l.map (·.c)) L < n → L.length + freeN (l.map (·.c)) L ≤ 3000 → st.ok L →
    SpecH Tryz.prog 107 (rcA i sb ob gb fb) (rcH (rcF a ca l sb ob gb fb mb) mb ob L st) (RetG (ι := WSt) (fun st => st.ok (reachF (l.map (·.c)) n L i)) (fun _ => .tuple #[]) (fun st => rcH (rcF a ca l sb ob gb fb mb) mb ob (reachF (l.map (·.c)) n L i) st)) := by
  intro n
  induction n with
  | zero => intro L st i _ h; omega
  | succ n ih =>
    rintro L ⟨es, c, o⟩ i0 hi hn hlen ⟨hk, ho⟩
    simp only at hk ho
    obtain ⟨i, rfl⟩ : ∃ i : Nat, i0 = (i : Int) := ⟨i0.toNat, by have := hi.1; omega⟩
    have hil : i < l.length := by have := hi.2; simp only [List.length_map] at this; omega
    obtain ⟨p, hp⟩ : ∃ x, l[i]? = some x := ⟨_, List.getElem?_eq_getElem hil⟩
    have hpm := List.mem_of_getElem? hp
    have hpo := hok p hpm
    have hps := hs.2 p hpm
    have hl := hs.1
    have hsa : a.isSome = true := by
      cases a with
      | none => rw [ha rfl] at hil; exact absurd hil (Nat.not_lt_zero _)
      | some b => rfl
    refine ownC hm Tryz.func107 (by kernel_rfl) rfl rfl (fun _ _ => rcH_ok _ _ _ _ _) (fun _ _ => Nat.le_refl _) ?_
    (first | refine wX ?_ | exact wZ)
    refine LdN.one (a := some ⟨sb, 0, none⟩) (q := 0) (.map (some mb)) rfl (fun w hw => hw.2.2.2.1.2.1) rfl ?_
    (first | refine wX ?_ | exact wZ)
    refine ReadW.keyMap (et := 4) (p := (i : Int)) (seenI L) rfl (by kernel_rfl) intT rfl rfl rfl rfl (fun w hw => hw.1) hk ?_
    rw [seenI_get]
    (first | refine wX ?_ | exact wZ)
    refine brd_dec (fun hmem => ?_) (fun hmem => ?_)
    · have hsf : reachF (l.map (·.c)) (n + 1) L (i : Int) = L := by unfold reachF; rw [if_pos hmem]
      rw [hsf]
      (first | refine wX ?_ | exact wZ)
      exact ⟨⟨es, c, o⟩, ⟨hk, ho⟩, rfl, wkH_refl _⟩
    have hsf : reachF (l.map (·.c)) (n + 1) L (i : Int) = (outs (l.map (·.c)) (i : Int)).foldl (reachF (l.map (·.c)) n) (L ++ [(i : Int)]) := by
      conv => lhs; unfold reachF
      rw [if_neg hmem]
    rw [hsf, show outs (l.map (·.c)) (i : Int) = p.c.items by unfold outs; rw [at_map hp]]
    have hlt := free_lt hi hmem (t := L ++ [(i : Int)]) (fun x hx => by simp [hx]) (by simp)
    (first | refine wX ?_ | exact wZ)
    refine LdN.one (a := some ⟨sb, 0, none⟩) (q := 0) (.map (some mb)) rfl (fun w hw => hw.2.2.2.1.2.1) rfl ?_
    (first | refine wX ?_ | exact wZ)
    refine EffW.setMap (et := 4) (p := (i : Int)) 0 (seenI L) rfl (by kernel_rfl) intT rfl rfl rfl rfl hk fun es2 c2 hk2 => ?_
    rw [seenI_put hmem] at hk2
    obtain ⟨ob0, ocap⟩ := o
    (first | refine wX ?_ | exact wZ)
    refine LdN.one (a := some ⟨ob, 0, none⟩) (q := 0) (.slice (at0 ob0) L.length ocap) rfl (fun w hw => hw.2.1) rfl ?_
    (first | refine wX ?_ | exact wZ)
    try refine Nd.mk ⟨Nat.le_refl 1, rfl, rfl⟩ ?_
    (conv => whnf)
    refine AppN.grow 2 (iC L) [.int .i64 (i : Int)] rfl rfl ⟨Nat.le_refl 1, ⟨by show (L.length + 1) * 8 ≤ _; omega, by omega⟩, Nat.one_ne_zero⟩ fun wb wc hwc _ => ?_
    have hcl : iC L ++ [.int .i64 (i : Int)] = iC (L ++ [(i : Int)]) := by simp [iC]
    have hll : L.length + 1 = (L ++ [(i : Int)]).length := by simp
    have hlen2 : (L ++ [(i : Int)]).length + freeN (l.map (·.c)) (L ++ [(i : Int)]) ≤ 3000 := by rw [← hll]; omega
    rw [hcl, hll]
    have hwc2 : (L ++ [(i : Int)]).length ≤ wc := by rw [← hll]; exact hwc
    generalize L ++ [(i : Int)] = L2 at *
    (first | refine wX ?_ | exact wZ)
    refine EffW.appTo (i := 1) (q := 0) (ys := [.slice (some ⟨wb, 0, none⟩) L2.length wc]) [.slice (some ⟨wb, 0, none⟩) L2.length wc] 1 rfl rfl rfl rfl rfl rfl rfl (Nat.le_of_ble_eq_true rfl) rfl rfl ?_
    (first | refine wX ?_ | exact wZ)
    refine LdN.one (a := some ⟨gb, 0, none⟩) (q := 0) (.slice a l.length ca) rfl (fun w hw => hw.2.2.2.1.2.2.1) rfl ?_
    (first | refine wX ?_ | exact wZ)
    refine Nd.mk ⟨hsa, by omega, by omega⟩ ?_
    (first | refine wX ?_ | exact wZ)
    refine LdN.fld (.slice p.ia p.c.items.length p.ic) rfl (fun w hw => hw.2.2.2.1.1.1) (by rw [Int.toNat_natCast]; exact grC_get l i 4 (by decide) hp) ?_
    (first | refine wX ?_ | exact wZ)
    have hitem : ∀ x ∈ p.c.items, InI (l.map (·.c)) x := fun x hx => outs_in hg hi (by unfold outs; rw [at_map hp]; exact hx)
    obtain ⟨f, hf⟩ : ∃ f, f = reachF (l.map (·.c)) n := ⟨_, rfl⟩
    have hfl : ∀ k, ((p.c.items.take k).foldl f L2).length + freeN (l.map (·.c)) ((p.c.items.take k).foldl f L2) ≤ 3000 := fun k => by
      rw [hf]
      have := fold_len (g := l.map (·.c)) (fun L k hk => reach_len hg n L k hk) (p.c.items.take k) L2 (fun x hx => hitem x (List.mem_of_mem_take hx))
      omega
    have hff : ∀ k, freeN (l.map (·.c)) ((p.c.items.take k).foldl f L2) < n := fun k => by
      rw [hf]
      have := free_mono (g := l.map (·.c)) (s := L2) (t := (p.c.items.take k).foldl (reachF (l.map (·.c)) n) L2) (fun x hx => fold_sub _ n x _ _ hx)
      omega
    rw [← hf] at ih ⊢
    refine LoopN.intro (Nat × WSt) (fun ⟨k, st⟩ => k ≤ p.c.items.length ∧ st.ok ((p.c.items.take k).foldl f L2))
      (fun ⟨k, st⟩ => mkS Tryz.f107.ntmps 0 [(4, .c (.v (.pointer (some ⟨fb, 0, none⟩)))), (21, .c (.v (.slice p.ia p.c.items.length p.ic))), (22, .c (.v (.int .i64 (p.c.items.length : Int)))), (23, .c (.v (.int .i64 (k : Int))))])
      (fun ⟨k, st⟩ => rcH (rcF a ca l sb ob gb fb mb) mb ob ((p.c.items.take k).foldl f L2) st ++ [.dead]) (fun ⟨k, _⟩ => p.c.items.length - k) [] rfl (fun ⟨_, _⟩ => rfl) (fun ⟨_, _⟩ => rfl) (fun ⟨_, _⟩ _ => okHB_eq rfl) ?_ ?_
    · refine ⟨(0, ⟨es2, c2, ⟨some wb, wc⟩⟩), ⟨Nat.zero_le _, hk2, (fun h => by cases h), hwc2, fun h => by have : wc = 0 := h; omega⟩, ?_, wkE_refl _, wkE_refl _, wkE_refl _, wkE_refl _, trivial, trivial⟩
      (repeat' (first | exact trivial | refine And.intro (by with_reducible rfl) ?_ | (with_reducible exact wkC_refl _) | (with_reducible exact wkCs_refl _) | refine And.intro ?_ ?_))
      all_goals rfl
    rintro ⟨k, st⟩ ⟨hk3, hst⟩
    (first | refine wX ?_ | exact wZ)
    refine brd_dec (fun h1 => ?_) (fun h1 => ?_)
    · obtain ⟨x, hx⟩ : ∃ z, p.c.items[k]? = some z := ⟨_, List.getElem?_eq_getElem (by omega)⟩
      have hxa : p.ia.isSome = true := by
        cases hq : p.ia with
        | none => rw [hpo.ia hq] at hx; cases hx
        | some b => rfl
      (first | refine wX ?_ | exact wZ)
      refine Nd.mk ⟨hxa, by omega, by omega⟩ ?_
      (first | refine wX ?_ | exact wZ)
      refine LdN.one (.int .i64 x) rfl (fun w hw => (hw.2.2.2.1.1.2 p hpm).2) (by rw [Int.toNat_natCast]; show (iC p.c.items)[k * 1]? = _; rw [Nat.mul_one]; exact iC_get hx) ?_
      (first | refine wX ?_ | exact wZ)
      refine LdN.one (a := some ⟨fb, 0, none⟩) (q := 0) (.func (.func 107) #[] #[.pointer (some ⟨sb, 0, none⟩), .pointer (some ⟨ob, 0, none⟩), .pointer (some ⟨gb, 0, none⟩), .pointer (some ⟨fb, 0, none⟩)]) rfl (fun w hw => hw.2.2.2.1.2.2.2) rfl ?_
      (first | refine wX ?_ | exact wZ)
      refine SpecH.args (args' := rcA x sb ob gb fb) (by simp [rcA, pvs, opvs, opv, nth, plainEv]; try rfl) ?_
      refine callG (ih ((p.c.items.take k).foldl f L2) st x (hitem x (List.mem_of_getElem? hx)) (hff k) (hfl k) hst) [0, 1, 2, 3] rfl ⟨rfl, rfl, rfl, rfl, trivial⟩ rfl fun st2 hst2 => ?_
      have hnx : f ((p.c.items.take k).foldl f L2) x = (p.c.items.take (k + 1)).foldl f L2 := (foldl_take hx).symm
      rw [hnx] at hst2 ⊢
      (first | refine wX ?_ | exact wZ)
      refine ⟨(k + 1, st2), ⟨by omega, hst2⟩, by show p.c.items.length - (k + 1) < p.c.items.length - k; omega, ?_, wkH_refl _⟩
      (repeat' (first | exact trivial | refine And.intro (by with_reducible rfl) ?_ | (with_reducible exact wkC_refl _) | (with_reducible exact wkCs_refl _) | refine And.intro ?_ ?_))
      all_goals first | rfl | exact av_int (by rw [wrap_i64 (by omega)]; omega)
    · have hkl : k = p.c.items.length := by omega
      subst hkl
      rw [List.take_length] at hst ⊢
      (first | refine wX ?_ | exact wZ)
      exact ⟨st, hst, rfl, wkE_refl _, wkE_refl _, wkE_refl _, wkE_refl _, trivial⟩
end Go.Proofs.YtahjbnfbilkbcaaGreatDoor

/-
  Contracts: reach, Reach (program).
-/
namespace Go.Proofs.YtahjbnfbilkbcaaGreatDoor
open Go.AX Go.RowKit Go.Core
set_option maxRecDepth 20000

/-- Numbers that were handed back. -/
def IntR (L : List Int) (v : Value) (G : World → Prop) : Prop := ∃ (oa : Option Addr) (oc : Nat), v = .slice oa L.length oc ∧ (oa = none → L = []) ∧ ∀ w, G w → SlAt oa (L.length * 1) (iC L) w
/-- The cells that are reached, in order. -/
def reachL (g : List Cell) (i : Int) : List Int := reachF g (g.length + 1) [] i
set_option maxHeartbeats 4000000 in
theorem reach_c {a : Option Addr} (ca : Nat) {l : List CellP} (ha : a = none → l = []) (hs : Small l) (hok : ∀ p ∈ l, CellOk p) (hg : InG (l.map (·.c))) (i : Int) (hi : InI (l.map (·.c)) i) :
    SpecF Tryz.prog 67 [.slice a l.length ca, .int .i64 i] (GrF a l) (IntR (reachL (l.map (·.c)) i)) := by
  refine specF hm Tryz.func67 (by kernel_rfl) rfl rfl ?_
  (conv => whnf)
  refine BoxN.known [.slice a l.length ca] rfl fun gb => ?_
  (first | refine wXB ?_ | exact wZB)
  refine EffW.mkMap rfl fun mb => ?_
  (first | refine wXB ?_ | exact wZB)
  refine BoxN.known [.map none] rfl fun sb => ?_
  (first | refine wXB ?_ | exact wZB)
  refine EffW.appTo (i := 3) (q := 0) (ys := [.map (some mb)]) [.map (some mb)] 1 rfl rfl rfl rfl rfl rfl rfl (Nat.le_of_ble_eq_true rfl) rfl rfl ?_
  (first | refine wXB ?_ | exact wZB)
  refine BoxN.known [.slice none 0 0] rfl fun ob => ?_
  (first | refine wXB ?_ | exact wZB)
  refine BoxN.known [.nilFunc] rfl fun fb => ?_
  (first | refine wXB ?_ | exact wZB)
  refine EffW.appTo (i := 5) (q := 0) (ys := [.func (.func 107) #[] #[.pointer (some ⟨sb, 0, none⟩), .pointer (some ⟨ob, 0, none⟩), .pointer (some ⟨gb, 0, none⟩), .pointer (some ⟨fb, 0, none⟩)]]) [.func (.func 107) #[] #[.pointer (some ⟨sb, 0, none⟩), .pointer (some ⟨ob, 0, none⟩), .pointer (some ⟨gb, 0, none⟩), .pointer (some ⟨fb, 0, none⟩)]] 1 rfl rfl rfl (by simp [opv, nth, plainEv, avCells, vs]; try rfl) rfl rfl rfl (Nat.le_of_ble_eq_true rfl) rfl rfl ?_
  (first | refine wXB ?_ | exact wZB)
  refine LdN.one (a := some ⟨fb, 0, none⟩) (q := 0) (.func (.func 107) #[] #[.pointer (some ⟨sb, 0, none⟩), .pointer (some ⟨ob, 0, none⟩), .pointer (some ⟨gb, 0, none⟩), .pointer (some ⟨fb, 0, none⟩)]) rfl (fun w hw => hw.2.2.2.2.2.1) rfl ?_
  (first | refine wXB ?_ | exact wZB)
  refine SpecH.args (args' := rcA i sb ob gb fb) (by simp [rcA, pvs, opvs, opv, nth, plainEv]; try rfl) ?_
  refine SpecH.pad [.app 3 1 [] none 0 0] rfl ?_
  refine SpecH.turn [.fact (GrF a l), .fact (rcF a ca l sb ob gb fb mb), .mp mb #[] 0, .dead, .app 35 1 [.slice none 0 0] (some ⟨ob, 0, none⟩) 1 1, .dead, .app 3 1 [] none 0 0] ⟨.inr (.inl rfl), .inr (.inr ⟨_, rfl, fun w hw => ⟨hw.1, hw.2.2.1, hw.2.1, hw.2.2.2.1⟩⟩), .inr (.inl rfl), .inl rfl, .inr (.inl rfl), .inl rfl, .inr (.inl rfl), trivial⟩ ?_
  have hfr := free_le (l.map (·.c)) []
  have hgl : (l.map (·.c)).length = l.length := by simp
  have hl := hs.1
  refine callG (rwalk_c a ca l ha hs hok hg sb ob gb fb mb ((l.map (·.c)).length + 1) [] ⟨#[], 0, ⟨none, 0⟩⟩ i hi (by omega) (by simp only [List.length_nil]; omega) ⟨rfl, fun _ => ⟨rfl, rfl⟩, Nat.le_refl _, fun _ => rfl⟩) [2, 4, 6, 1] rfl ⟨rfl, rfl, rfl, rfl, trivial⟩ rfl fun ⟨es, c, ⟨ob2, oc⟩⟩ hst => ?_
  obtain ⟨_, h2⟩ := hst
  have hL : reachF (l.map (·.c)) ((l.map (·.c)).length + 1) [] i = reachL (l.map (·.c)) i := rfl
  rw [hL] at h2 ⊢
  generalize reachL (l.map (·.c)) i = L at *
  (first | refine wX ?_ | exact wZ)
  refine LdN.one (a := some ⟨ob, 0, none⟩) (q := 0) (.slice (at0 ob2) L.length oc) rfl (fun w hw => hw.2.2.2.1) rfl ?_
  (first | refine wX ?_ | exact wZ)
  refine fin_p (SlAt (at0 ob2) (L.length * 1) (iC L)) ⟨_, _, rfl, fun h => ?_, fun w hw => hw⟩ fun w hw => ?_
  · cases ob2 with
    | none => exact List.eq_nil_of_length_eq_zero (h2.1 rfl).1
    | some b => cases h
  · exact hw.2.2.2.2.1
end Go.Proofs.YtahjbnfbilkbcaaGreatDoor

/-
  Contracts: slices.ContainsFunc of numbers, by a closure that writes a map; circular (program).
-/
namespace Go.Core
end Go.Core
namespace Go.Proofs.YtahjbnfbilkbcaaGreatDoor
open Go.AX Go.RowKit Go.Core
set_option maxRecDepth 20000

def colour (u d : List Int) (i : Int) : Int := if i ∈ u then 1 else if i ∈ d then 2 else 0
def okC (u d : List Int) (st : Array MapEntry × Nat) : Prop := ∃ R : List (Int × Value), KeysAre (fun k : Int => .int .i64 k) st.1.toList R ∧ ∀ i, (R.lookup i).getD (.int .i64 0) = .int .i64 (colour u d i)
end Go.Proofs.YtahjbnfbilkbcaaGreatDoor

/-
  Plain: how deep what is reached is.
-/
namespace Go.Core
/-- How deep a cell is. -/
def htF (g : List Cell) : Nat → Int → Nat
  | 0, _ => 0
  | n + 1, i => (outs g i).foldl (fun m k => max m (htF g n k)) 0 + 1
def dep (g : List Cell) (i : Int) : Nat := htF g g.length i
end Go.Core

/-
  Contract: how deep (program).
-/
namespace Go.Proofs.YtahjbnfbilkbcaaGreatDoor
open Go.AX Go.RowKit Go.Core
set_option maxRecDepth 20000

end Go.Proofs.YtahjbnfbilkbcaaGreatDoor

/-
  Plain: texts and walks do not hang on the purse; the text of an array without circles; joined graphs, copies, what is the same.
-/
namespace Go.Core
theorem catT_congr {F G : Int → List UInt8} {pre : Nat → List UInt8} : ∀ (l : List Int) (i : Nat), (∀ k ∈ l, F k = G k) → catT F pre i l = catT G pre i l
  | [], _, _ => rfl
  | k :: l, j, h => by
    unfold catT
    rw [h k (by simp), catT_congr l (j + 1) fun x hx => h x (by simp [hx])]
theorem full_stab {lf : Cell → List UInt8} {g : List Cell} (hg : InG g) : ∀ (n m : Nat) (way : List Int) (a : Int), InI g a → freeN g way < n → freeN g way < m → fullT lf g n way a = fullT lf g m way a
  | 0, _, _, _, _, h, _ => by omega
  | _ + 1, 0, _, _, _, _, h => by omega
  | n + 1, m + 1, way, a, ha, h1, h2 => by
    unfold fullT
    split
    · rfl
    split
    · rfl
    · rename_i hm
      have hlt := free_lt ha hm (t := way ++ [a]) (fun x hx => by simp [hx]) (by simp)
      rw [catT_congr (F := fullT lf g n (way ++ [a])) (G := fullT lf g m (way ++ [a])) (at_ g a).items _ fun k hk => full_stab hg n m (way ++ [a]) k (outs_in hg ha hk) (by omega) (by omega)]
theorem reach_stab {g : List Cell} (hg : InG g) : ∀ (n m : Nat) (L : List Int) (i : Int), InI g i → freeN g L < n → freeN g L < m → reachF g n L i = reachF g m L i
  | 0, _, _, _, _, h, _ => by omega
  | _ + 1, 0, _, _, _, _, h => by omega
  | n + 1, m + 1, L, i, hi, h1, h2 => by
    unfold reachF
    split
    · rfl
    · rename_i hm
      have hlt := free_lt hi hm (t := L ++ [i]) (fun x hx => by simp [hx]) (by simp)
      have : ∀ (ks L2 : List Int), (∀ k ∈ ks, InI g k) → freeN g L2 ≤ freeN g (L ++ [i]) → ks.foldl (reachF g n) L2 = ks.foldl (reachF g m) L2 := by
        intro ks
        induction ks with
        | nil => exact fun _ _ _ => rfl
        | cons k ks ih =>
          intro L2 hk hL
          rw [List.foldl_cons, List.foldl_cons, reach_stab hg n m L2 k (hk k (by simp)) (by omega) (by omega)]
          exact ih _ (fun x hx => hk x (by simp [hx])) (Nat.le_trans (free_mono fun x hx => (by
            obtain ⟨r, hr⟩ := reach_pre (g := g) m L2 k
            rw [hr]; simp [hx])) hL)
      exact this _ _ (fun k hk => outs_in hg hi hk) (Nat.le_refl _)
/-- The text of a cell. -/
def fullL (lf : Cell → List UInt8) (g : List Cell) (u : Int) : List UInt8 := fullT lf g (g.length + 2) [] u
/-! ### One graph within another -/
theorem emb_text {lf : Cell → List UInt8} (hlf : ∀ c d : Cell, c.kind = d.kind → c.num = d.num → c.text = d.text → lf c = lf d) {g t : List Cell} (hg : InG g) (ht : InG t) {φ : Int → Int} {R : Int → Prop} (h : Emb g t φ R) {a : Int} (ha : R a) (hga : InI g a) (hta : InI t (φ a)) : fullL lf t (φ a) = fullL lf g a := by
  have h1 := free_le g []
  have h2 := free_le t []
  have e := emb_full hlf h (g.length + t.length + 2) [] a ha (fun x hx => by cases hx)
  unfold fullL
  rw [full_stab hg (g.length + 2) (g.length + t.length + 2) [] a hga (by omega) (by omega), full_stab ht (t.length + 2) (g.length + t.length + 2) [] (φ a) hta (by omega) (by omega)]
  exact e
theorem emb_reachL {g t : List Cell} (hg : InG g) (ht : InG t) {φ : Int → Int} {R : Int → Prop} (h : Emb g t φ R) {a : Int} (ha : R a) (hga : InI g a) (hta : InI t (φ a)) : reachF t (t.length + 1) [] (φ a) = (reachF g (g.length + 1) [] a).map φ ∧ ∀ x ∈ reachF g (g.length + 1) [] a, R x := by
  have h1 := free_le g []
  have h2 := free_le t []
  have e := emb_reach h (g.length + t.length + 2) [] a ha (fun x hx => by cases hx)
  rw [reach_stab hg (g.length + 1) (g.length + t.length + 2) [] a hga (by omega) (by omega), reach_stab ht (t.length + 1) (g.length + t.length + 2) [] (φ a) hta (by omega) (by omega)]
  exact e
/-- Two graphs in one. -/
def joinS (g h : List Cell) : List Cell := g ++ h.map (reNum fun i => i + (g.length : Int))
theorem at_app1 {g h : List Cell} {i : Int} (hi : InI g i) : at_ (g ++ h) i = at_ g i := by
  unfold at_
  rw [List.getD_eq_getElem?_getD, List.getD_eq_getElem?_getD, List.getElem?_append_left (by have := hi.1; have := hi.2; omega)]
theorem at_app2 {g h : List Cell} {i : Int} (hi : InI h i) : at_ (g ++ h) (i + (g.length : Int)) = at_ h i := by
  unfold at_
  have e : (i + (g.length : Int)).toNat = g.length + i.toNat := by have := hi.1; omega
  rw [e, List.getD_eq_getElem?_getD, List.getD_eq_getElem?_getD, List.getElem?_append_right (by omega), Nat.add_sub_cancel_left]
theorem at_mapR {h : List Cell} {φ : Int → Int} {i : Int} (hi : InI h i) : at_ (h.map (reNum φ)) i = reNum φ (at_ h i) := by
  unfold at_
  have e : i.toNat < h.length := by have := hi.1; have := hi.2; omega
  rw [List.getD_eq_getElem?_getD, List.getD_eq_getElem?_getD, List.getElem?_map, List.getElem?_eq_getElem e]
  rfl
theorem join_len (g h : List Cell) : (joinS g h).length = g.length + h.length := by unfold joinS; simp
theorem join_emb1 {g h : List Cell} (hg : InG g) : Emb g (joinS g h) id (InI g) :=
  ⟨fun i hi => by
    unfold joinS
    rw [id, at_app1 hi]
    unfold reNum
    simp, fun i hi k hk => outs_in hg hi hk, fun _ _ _ _ h => h⟩
theorem join_emb2 {g h : List Cell} (hh : InG h) : Emb h (joinS g h) (fun i => i + (g.length : Int)) (InI h) :=
  ⟨fun i hi => by
    unfold joinS
    have hi2 : InI (h.map (reNum fun i => i + (g.length : Int))) i := ⟨hi.1, by rw [List.length_map]; exact hi.2⟩
    rw [at_app2 hi2, at_mapR hi], fun i hi k hk => outs_in hh hi hk, fun _ _ _ _ h => by omega⟩
theorem join_in {g h : List Cell} (hg : InG g) (hh : InG h) : InG (joinS g h) := by
  intro c hc i hi
  rw [join_len]
  rcases List.mem_append.1 hc with hc | hc
  · have := hg c hc i hi; omega
  · obtain ⟨d, hd, rfl⟩ := List.mem_map.1 hc
    obtain ⟨k, hk, rfl⟩ := List.mem_map.1 hi
    have := hh d hd k hk
    omega
/-- What has the same copy is not told apart in the joined graph. -/
theorem same_join {g h : List Cell} (hg : InG g) (hh : InG h) {a b : Int} (ha : InI g a) (hb : InI h b) (he : takenS g (reachF g (g.length + 1) [] a) = takenS h (reachF h (h.length + 1) [] b)) : Eqv (joinS g h) (a, b + (g.length : Int)) := by
  obtain ⟨L1, hL1⟩ : ∃ L, L = reachF g (g.length + 1) [] a := ⟨_, rfl⟩
  obtain ⟨L2, hL2⟩ : ∃ L, L = reachF h (h.length + 1) [] b := ⟨_, rfl⟩
  rw [← hL1, ← hL2] at he
  have d1 := reach_done hg (g.length + 1) [] a ha (Nat.lt_succ_of_le (free_le g []))
  have d2 := reach_done hh (h.length + 1) [] b hb (Nat.lt_succ_of_le (free_le h []))
  rw [← hL1] at d1
  rw [← hL2] at d2
  have c1 : ∀ x ∈ L1, ∀ k ∈ outs g x, k ∈ L1 := fun x hx => ((d1.1.new x hx).resolve_left (by simp)).2
  have c2 : ∀ x ∈ L2, ∀ k ∈ outs h x, k ∈ L2 := fun x hx => ((d2.1.new x hx).resolve_left (by simp)).2
  have i1 : ∀ x ∈ L1, InI g x := fun x hx => to_in hg ((d1.1.new x hx).resolve_left (by simp)).1 ha
  have i2 : ∀ x ∈ L2, InI h x := fun x hx => to_in hh ((d2.1.new x hx).resolve_left (by simp)).1 hb
  have hp : ∃ r, L1 = a :: r := by
    rw [hL1]
    unfold reachF
    rw [if_neg (by simp)]
    have : ∀ (n : Nat) (ks L : List Int), ∃ r, ks.foldl (reachF g n) L = L ++ r := fun n ks => by
      induction ks with
      | nil => exact fun L => ⟨[], by simp⟩
      | cons k ks ih =>
        intro L
        obtain ⟨r, hr⟩ := reach_pre (g := g) n L k
        obtain ⟨r2, hr2⟩ := ih (reachF g n L k)
        exact ⟨r ++ r2, by rw [List.foldl_cons, hr2, hr, List.append_assoc]⟩
    obtain ⟨r, hr⟩ := this g.length (outs g a) ([] ++ [a])
    exact ⟨r, by rw [hr]; simp⟩
  have hq : ∃ r, L2 = b :: r := by
    rw [hL2]
    unfold reachF
    rw [if_neg (by simp)]
    have : ∀ (n : Nat) (ks L : List Int), ∃ r, ks.foldl (reachF h n) L = L ++ r := fun n ks => by
      induction ks with
      | nil => exact fun L => ⟨[], by simp⟩
      | cons k ks ih =>
        intro L
        obtain ⟨r, hr⟩ := reach_pre (g := h) n L k
        obtain ⟨r2, hr2⟩ := ih (reachF h n L k)
        exact ⟨r ++ r2, by rw [List.foldl_cons, hr2, hr, List.append_assoc]⟩
    obtain ⟨r, hr⟩ := this h.length (outs h b) ([] ++ [b])
    exact ⟨r, by rw [hr]; simp⟩
  refine eqv_closed (fun q => ∃ x y, q = (x, y + (g.length : Int)) ∧ x ∈ L1 ∧ y ∈ L2 ∧ place L1 x = place L2 y) ⟨a, b, rfl, d1.2, d2.2, ?_⟩ ?_
  · obtain ⟨r1, h1⟩ := hp
    obtain ⟨r2, h2⟩ := hq
    rw [h1, h2]
    unfold place
    rw [List.idxOf_cons_self, List.idxOf_cons_self]
  · rintro q ⟨x, y, rfl, hx, hy, hxy⟩
    have e1 : at_ (joinS g h) x = at_ g x := by
      have := (join_emb1 (h := h) hg).cell x (i1 x hx)
      rw [id] at this
      rw [this]; unfold reNum; simp
    have e2 : at_ (joinS g h) (y + (g.length : Int)) = reNum (fun i => i + (g.length : Int)) (at_ h y) := (join_emb2 hh).cell y (i2 y hy)
    have ht : reNum (place L1) (at_ g x) = reNum (place L2) (at_ h y) := by
      rw [← taken_at hx, ← taken_at hy, he, hxy]
    have hk : (at_ g x).kind = (at_ h y).kind := by have k := congrArg Cell.kind ht; exact k
    have hn : (at_ g x).num = (at_ h y).num := by have k := congrArg Cell.num ht; exact k
    have htx : (at_ g x).text = (at_ h y).text := by have k := congrArg Cell.text ht; exact k
    have hnm : (at_ g x).names = (at_ h y).names := by have k := congrArg Cell.names ht; exact k
    have hit : (at_ g x).items.map (place L1) = (at_ h y).items.map (place L2) := by have k := congrArg Cell.items ht; exact k
    have hil : (at_ g x).items.length = (at_ h y).items.length := by have := congrArg List.length hit; simpa using this
    refine ⟨?_, fun r hr => ?_⟩
    · unfold ok alikeB
      simp only [e1, e2]
      unfold reNum
      simp [hk, hn, htx, hnm, hil]
    · unfold nextP at hr
      simp only [e1, e2] at hr
      obtain ⟨j, hj⟩ := List.getElem?_of_mem hr
      obtain ⟨hj1, hj2⟩ := List.getElem?_zip_eq_some.1 hj
      unfold reNum at hj2
      simp only [List.getElem?_map, Option.map_eq_some_iff] at hj2
      obtain ⟨k, hk1, hk2⟩ := hj2
      have hpl := congrArg (fun l => l[j]?) hit
      simp only [List.getElem?_map, hj1, hk1, Option.map_some] at hpl
      exact ⟨r.1, k, Prod.ext rfl hk2.symm, c1 x hx _ (List.mem_of_getElem? hj1), c2 y hy _ (List.mem_of_getElem? hk1), Option.some.inj hpl⟩
end Go.Core

/-
  Plain: copies and joined graphs are valid.
-/
namespace Go.Core
theorem cellD_re {n m : Nat} {c : Cell} {φ : Int → Int} (h : cellD n c = true) (hφ : ∀ x ∈ c.items, 0 ≤ φ x ∧ φ x < (m : Int)) : cellD m (reNum φ c) = true := by
  have hr : rangeB m (reNum φ c) = true := by
    unfold rangeB reNum
    rw [List.all_eq_true]
    intro y hy
    obtain ⟨x, hx, rfl⟩ := List.mem_map.1 hy
    have := hφ x hx
    simp [this.1, this.2]
  unfold cellD at h ⊢
  rw [hr, Bool.true_and]
  rw [Bool.and_assoc, Bool.and_eq_true] at h
  have h2 := h.2
  unfold reNum
  simp only [List.map_eq_nil_iff, List.length_map] at *
  exact h2
theorem keyB_re {g t : List Cell} {φ : Int → Int} {R : Int → Prop} (h : Emb g t φ R) {x y : Int} (hx : R x) (hy : R y) : keyB t (φ x) (φ y) = keyB g x y := by
  unfold keyB
  rw [h.cell x hx, h.cell y hy]
  congr 1
  exact decide_eq_decide.2 ⟨h.inj x y hx hy, fun e => by rw [e]⟩
theorem twice_re {g t : List Cell} {φ : Int → Int} {R : Int → Prop} (h : Emb g t φ R) {l : List Int} (hl : ∀ x ∈ l, R x) (ht : Twice t (l.map φ)) : Twice g l := by
  obtain ⟨i, k, h1, h2, h3, h4, h5⟩ := ht
  rw [List.length_map] at h2
  obtain ⟨x, hx⟩ : ∃ x, l[i]? = some x := ⟨_, List.getElem?_eq_getElem h2⟩
  obtain ⟨y, hy⟩ : ∃ y, l[k]? = some y := ⟨_, List.getElem?_eq_getElem (by omega)⟩
  refine ⟨i, k, h1, h2, h3, h4, ?_⟩
  rw [List.getD_eq_getElem?_getD, List.getD_eq_getElem?_getD, List.getElem?_map, List.getElem?_map, hx, hy] at h5
  rw [List.getD_eq_getElem?_getD, List.getD_eq_getElem?_getD, hx, hy]
  rw [← h5]
  exact (keyB_re h (hl x (List.mem_of_getElem? hx)) (hl y (List.mem_of_getElem? hy))).symm
/-- A cell within the greater graph is valid there. -/
theorem valid_cell {g t : List Cell} {φ : Int → Int} {R : Int → Prop} (hv : ValidP g) (h : Emb g t φ R) (hR : ∀ i, R i → InI g i) (hin : ∀ i, R i → 0 ≤ φ i ∧ φ i < (t.length : Int)) {i : Int} (hi : R i) :
    cellD t.length (reNum φ (at_ g i)) = true ∧ ((reNum φ (at_ g i)).kind = 7 → ¬ Twice t (reNum φ (at_ g i)).items) := by
  have hm := at_mem (hR i hi)
  refine ⟨cellD_re (hv.2.1 _ hm) fun x hx => hin x (h.outs i hi x hx), fun hk ht => ?_⟩
  exact hv.2.2 _ hm hk (twice_re h (fun x hx => h.outs i hi x hx) ht)
theorem valid_taken {g : List Cell} (hv : ValidP g) {l : List Int} (hc : ∀ i ∈ l, ∀ k ∈ outs g i, k ∈ l) (hl : ∀ i ∈ l, InI g i) (hn : l.length ≤ 500) : ValidP (takenS g l) := by
  have hlen : (takenS g l).length = l.length := by unfold takenS; simp
  have key : ∀ c ∈ takenS g l, cellD (takenS g l).length c = true ∧ (c.kind = 7 → ¬ Twice (takenS g l) c.items) := fun c hcm => by
    obtain ⟨i, hi, rfl⟩ := List.mem_map.1 hcm
    exact valid_cell hv (taken_emb hc) hl (fun x hx => by
      have := List.idxOf_lt_length_iff.2 hx
      unfold place
      omega) hi
  exact ⟨by omega, fun c h => (key c h).1, fun c h => (key c h).2⟩
theorem mem_at {g : List Cell} {c : Cell} (h : c ∈ g) : ∃ i, InI g i ∧ c = at_ g i := by
  obtain ⟨j, hj⟩ := List.getElem?_of_mem h
  have hl := (List.getElem?_eq_some_iff.1 hj).1
  refine ⟨(j : Int), ⟨by omega, by omega⟩, ?_⟩
  unfold at_
  rw [Int.toNat_natCast, List.getD_eq_getElem?_getD, hj]
  rfl
theorem valid_join {g h : List Cell} (hg : ValidP g) (hh : ValidP h) (hn : g.length + h.length ≤ 500) : ValidP (joinS g h) := by
  have hlen := join_len g h
  have ig := valid_in hg
  have ih := valid_in hh
  have key : ∀ c ∈ joinS g h, cellD (joinS g h).length c = true ∧ (c.kind = 7 → ¬ Twice (joinS g h) c.items) := fun c hcm => by
    rcases List.mem_append.1 hcm with hm | hm
    · obtain ⟨i, hi, rfl⟩ := mem_at hm
      have := valid_cell hg (join_emb1 (h := h) ig) (fun _ h => h) (fun x hx => by have := hx.1; have := hx.2; simp only [id]; omega) hi
      have e : reNum id (at_ g i) = at_ g i := by unfold reNum; simp
      rw [e] at this
      exact this
    · obtain ⟨d, hd, rfl⟩ := List.mem_map.1 hm
      obtain ⟨i, hi, rfl⟩ := mem_at hd
      exact valid_cell hh (join_emb2 (g := g) ih) (fun _ h => h) (fun x hx => by have := hx.1; have := hx.2; omega) hi
  exact ⟨by omega, fun c h => (key c h).1, fun c h => (key c h).2⟩
end Go.Core

/-
  Contract: the graphs that numbers make (law).
-/
namespace Go.Proofs.YtahjbnfbilkbcaaGreatDoor
open Go.AX Go.RowKit Go.Core
set_option maxRecDepth 20000

theorem SlAt.take {a : Option Addr} {k j : Nat} {xs : List Value} {w : World} (h : SlAt a k xs w) (hj : j ≤ k) : SlAt a j (xs.take j) w :=
  ⟨by rw [List.length_take, h.1]; omega, fun h0 => h.2.1 (by omega), fun i hi => by rw [h.2.2 i (by omega), List.getElem?_take_of_lt hi]⟩
end Go.Proofs.YtahjbnfbilkbcaaGreatDoor

/-
  Plain: a graph whose cells are changed one by one, and its rows; graphs in whose arrays b stands for a are valid.
-/
namespace Go.Core
/-- The first k of the items are changed. -/
def mixI (f : Int → Int) (k : Nat) (its : List Int) : List Int := (its.take k).map f ++ its.drop k
theorem mixI_zero (f : Int → Int) (its : List Int) : mixI f 0 its = its := by unfold mixI; simp
theorem mixI_all (f : Int → Int) (its : List Int) : mixI f its.length its = its.map f := by unfold mixI; simp
theorem mixI_len (f : Int → Int) (k : Nat) (its : List Int) : (mixI f k its).length = its.length := by
  unfold mixI
  rw [List.length_append, List.length_map, List.length_take, List.length_drop]
  omega
theorem mix_get {α : Type} {f : α → α} {k : Nat} {l : List α} (h : k < l.length) : ((l.take k).map f ++ l.drop k)[k]? = l[k]? := by
  rw [List.getElem?_append_right (by simp; omega), List.getElem?_drop]
  simp
  congr 1
  omega
theorem mix_set {α : Type} {f : α → α} {k : Nat} {l : List α} {x : α} (h : l[k]? = some x) : ((l.take k).map f ++ l.drop k).set k (f x) = (l.take (k + 1)).map f ++ l.drop (k + 1) := by
  have hk := (List.getElem?_eq_some_iff.1 h).1
  rw [List.set_append_right _ _ (by simp; omega)]
  have e : k - (List.map f (List.take k l)).length = 0 := by simp; omega
  rw [e, List.drop_eq_getElem_cons hk, List.set_cons_zero, List.take_add_one, h]
  simp
theorem set_same {α : Type} {l : List α} {k : Nat} {x : α} (h : l[k]? = some x) : l.set k x = l := by
  obtain ⟨hk, rfl⟩ := List.getElem?_eq_some_iff.1 h
  exact List.set_getElem_self hk
end Go.Core
namespace Go.Proofs.YtahjbnfbilkbcaaGreatDoor
open Go.AX Go.RowKit Go.Core
set_option maxRecDepth 20000

end Go.Proofs.YtahjbnfbilkbcaaGreatDoor

/-
  Contract: the graph of what is reached (program), with memory of the caller's own.
-/
namespace Go.Proofs.YtahjbnfbilkbcaaGreatDoor
open Go.AX Go.RowKit Go.Core
set_option maxRecDepth 20000

/-- What is known of a graph that was made. -/
structure MInv (t : List Cell) (st : DSt) : Prop where
  oa : st.oa = none → st.m = []
  c : st.m.map (·.c) = t
  ok : ∀ p ∈ st.m, CellOk p
  own : ∀ p ∈ st.m, OwnP p
  cap : st.m.length ≤ st.oc
theorem MInv.gr {t : List Cell} {st : DSt} (h : MInv t st) {w : World} (h1 : SlAt st.oa (st.m.length * 5) (grC st.m) w) (h2 : famF (rowsG st.m) w) : GrF st.oa st.m w := ⟨h1, grF_rows h.ok h.own h2⟩
theorem to_in {g : List Cell} (hg : InG g) {i j : Int} (hi : InI g i) (h : To g i j) : InI g j := by
  induction h with
  | refl => exact hi
  | step hk _ ih => exact ih (outs_in hg hi hk)
/-- The places of the first cells are known. -/
def okL (L : List Int) (j : Nat) (st : Array MapEntry × Nat) : Prop := ∃ R : List (Int × Value), KeysAre (fun k : Int => .int .i64 k) st.1.toList R ∧ ∀ x ∈ L.take j, R.lookup x = some (.int .i64 (place L x))
set_option maxHeartbeats 4000000 in
theorem taken_o (a : Option Addr) (ca : Nat) (l : List CellP) (ha : a = none → l = []) (hs : Small l) (hok : ∀ p ∈ l, CellOk p) (hg : InG (l.map (·.c))) (i0 : Int) (hi0 : InI (l.map (·.c)) i0) : SpecH Tryz.prog 60 (pvs [.slice a l.length ca, .int .i64 i0]) [.fact (GrF a l)] (RetG (MInv (takenS (l.map (·.c)) (reachL (l.map (·.c)) i0))) (fun st => .slice st.oa st.m.length st.oc) (fun st => .dead :: .dead :: .dead :: ownN 42 st)) := by
  obtain ⟨hl, hsm⟩ := hs
  refine ownC hm Tryz.func60 (by kernel_rfl) rfl rfl (fun _ _ => okHB_eq rfl) (fun _ _ => by show 1 ≤ 5; decide) ?_
  (first | refine wX ?_ | exact wZ)
  refine SpecF.call (reach_c ca ha ⟨hl, hsm⟩ hok hg i0 hi0) (fun w hw => hw.1) fun v1 G1 hv1 => ?_
  obtain ⟨ra, rc, rfl, hra, hG1⟩ := hv1
  obtain ⟨L, hL⟩ : ∃ L, L = reachL (l.map (·.c)) i0 := ⟨_, rfl⟩
  have hgl : (l.map (·.c)).length = l.length := by simp
  have hLn : L.Nodup := by rw [hL]; exact reach_nodup _ _ _ List.nodup_nil
  have hLi : ∀ x, x ∈ L ↔ To (l.map (·.c)) i0 x := fun x => by rw [hL]; exact reach_iff hg (Nat.lt_succ_self _) hi0 x
  have hLl : L.length ≤ l.length := by
    have h1 := reach_len hg ((l.map (·.c)).length + 1) [] i0 hi0
    have h2 := free_le (l.map (·.c)) []
    rw [hL]
    unfold reachL
    simp only [List.length_nil] at h1
    omega
  rw [← hL] at hra hG1 ⊢
  clear hL
  (first | refine wX ?_ | exact wZ)
  refine EffW.mkMap rfl fun mb => ?_
  have hLc : ∀ x ∈ L, ∀ y ∈ outs (l.map (·.c)) x, y ∈ L := fun x hx y hy => (hLi y).2 (((hLi x).1 hx).trans (.step hy (.refl y)))
  have hLg : ∀ x ∈ L, InI (l.map (·.c)) x := fun x hx => to_in hg hi0 ((hLi x).1 hx)
  clear hLi
  (first | refine wX ?_ | exact wZ)
  refine LoopN.intro (Nat × (Array MapEntry × Nat)) (fun ⟨j, st⟩ => j ≤ L.length ∧ okL L j st)
    (fun ⟨j, _⟩ => mkS Tryz.f60.ntmps 0 [(0, .c (.v (.slice a l.length ca))), (4, .c (.v (.slice none 0 0))), (5, .c (.v (.slice ra L.length rc))), (6, .c (.v (.map (some mb)))), (19, .c (.v (.slice ra L.length rc))), (20, .c (.v (.int .i64 (L.length : Int)))), (21, .c (.v (.int .i64 (j : Int))))])
    (fun ⟨_, st⟩ => [.fact (GrF a l), .fact G1, .mp mb st.1 st.2]) (fun ⟨j, _⟩ => L.length - j) [] rfl (fun ⟨_, _⟩ => rfl) (fun ⟨_, _⟩ => rfl) (fun ⟨_, _⟩ _ => okHB_eq rfl) ?_ ?_
  · refine ⟨(0, (#[], 0)), ⟨Nat.zero_le _, [], rfl, fun x h => by cases h⟩, ?_, wkE_refl _, wkE_refl _, wkE_refl _, trivial⟩
    (repeat' (first | exact trivial | refine And.intro (by with_reducible rfl) ?_ | (with_reducible exact wkC_refl _) | (with_reducible exact wkCs_refl _) | refine And.intro ?_ ?_))
    all_goals rfl
  rintro ⟨j, ⟨es, c⟩⟩ ⟨hj, R, hR, hval⟩
  (first | refine wX ?_ | exact wZ)
  refine brd_dec (fun h1 => ?_) (fun h1 => ?_)
  · obtain ⟨x, hx⟩ : ∃ x, L[j]? = some x := ⟨_, List.getElem?_eq_getElem (by omega)⟩
    have hra2 : ra.isSome = true := by
      cases ra with
      | none => rw [hra rfl] at hx; cases hx
      | some b => rfl
    (first | refine wX ?_ | exact wZ)
    refine Nd.mk ⟨hra2, by omega, by omega⟩ ?_
    (first | refine wX ?_ | exact wZ)
    refine LdN.one (.int .i64 x) rfl (fun w hw => hG1 w hw.2.1) (by rw [Int.toNat_natCast]; show (iC L)[j * 1]? = _; rw [Nat.mul_one]; exact iC_get hx) ?_
    (first | refine wX ?_ | exact wZ)
    refine EffW.setMap (et := 3) (p := x) 2 R rfl (by kernel_rfl) intT rfl rfl rfl rfl hR fun es4 c4 hk4 => ?_
    (first | refine wX ?_ | exact wZ)
    refine ⟨(j + 1, (es4, c4)), ⟨by omega, _, hk4, fun y hy => ?_⟩, by show L.length - (j + 1) < L.length - j; omega, ?_, wkE_refl _, wkE_refl _, wkE_refl _, trivial⟩
    · rw [look_upd]
      rw [List.take_add_one, hx] at hy
      rcases List.mem_append.1 hy with hy | hy
      · by_cases hxy : y = x
        · rw [if_pos hxy, hxy, place_at hLn hx]
        · rw [if_neg hxy]; exact hval y hy
      · rw [List.mem_singleton.1 hy, if_pos rfl, place_at hLn hx]
    · (repeat' (first | exact trivial | refine And.intro (by with_reducible rfl) ?_ | (with_reducible exact wkC_refl _) | (with_reducible exact wkCs_refl _) | refine And.intro ?_ ?_))
      all_goals first | rfl | exact av_int (by rw [wrap_i64 (by omega)]; omega)
  · have hjl : j = L.length := by omega
    subst hjl
    rw [List.take_length] at hval
    (first | refine wX ?_ | exact wZ)
    refine LoopN.introS DSt (fun ⟨j, oa, oc, m⟩ => j ≤ L.length ∧ (oa = none → m = []) ∧ m.map (·.c) = (L.take j).map (fun k => reNum (place L) (at_ (l.map (·.c)) k)) ∧ (∀ p ∈ m, CellOk p) ∧ (∀ p ∈ m, OwnP p) ∧ m.length ≤ oc)
      (fun ⟨j, oa, oc, m⟩ => mkS Tryz.f60.ntmps 0 [(0, .c (.v (.slice a l.length ca))), (6, .c (.v (.map (some mb)))), (9, .c (.v (.slice oa m.length oc))), (30, .c (.v (.slice ra L.length rc))), (31, .c (.v (.int .i64 (L.length : Int)))), (32, .c (.v (.int .i64 (j : Int))))])
      (fun ⟨_, oa, oc, m⟩ => [.fact (GrF a l), .fact G1, .mp mb es c, .app 42 5 (grC m) oa m.length oc, famE (rowsG m)]) (fun ⟨j, _, _, _⟩ => L.length - j) [.app 42 5 [] none 0 0, .dead] rfl (fun _ => rfl) (fun _ => rfl) (fun _ _ => ⟨trivial, trivial, trivial, trivial, trivial, trivial⟩) ?_ ?_
    · refine ⟨⟨0, none, 0, []⟩, ⟨Nat.zero_le _, fun _ => rfl, rfl, (fun p h => by cases h), (fun p h => by cases h), Nat.le_refl _⟩, ?_, _, (famNew 4 rfl).s, wkE_refl _, wkE_refl _, wkE_refl _, wkE_refl _, wkE_refl _, trivial⟩
      (repeat' (first | exact trivial | refine And.intro (by with_reducible rfl) ?_ | (with_reducible exact wkC_refl _) | (with_reducible exact wkCs_refl _) | refine And.intro ?_ ?_))
      all_goals rfl
    rintro ⟨j, oa, oc, m⟩ ⟨hj, hoa, hmc, hmo, hmw, hoc⟩
    have hml : m.length = j := by
      have := congrArg List.length hmc
      simp only [List.length_map, List.length_take] at this
      omega
    (first | refine wX ?_ | exact wZ)
    refine brd_dec (fun h1 => ?_) (fun h1 => ?_)
    · obtain ⟨x, hx⟩ : ∃ x, L[j]? = some x := ⟨_, List.getElem?_eq_getElem (by omega)⟩
      have hxL := List.mem_of_getElem? hx
      have hxi := hLg x hxL
      have hra2 : ra.isSome = true := by
        cases ra with
        | none => rw [hra rfl] at hx; cases hx
        | some b => rfl
      (first | refine wX ?_ | exact wZ)
      refine Nd.mk ⟨hra2, by omega, by omega⟩ ?_
      (first | refine wX ?_ | exact wZ)
      refine LdN.one (.int .i64 x) rfl (fun w hw => hG1 w hw.2.1) (by rw [Int.toNat_natCast]; show (iC L)[j * 1]? = _; rw [Nat.mul_one]; exact iC_get hx) ?_
      obtain ⟨k, rfl⟩ : ∃ k : Nat, x = (k : Int) := ⟨x.toNat, by have := hxi.1; omega⟩
      have hkl : k < l.length := by have := hxi.2; rw [hgl] at this; omega
      obtain ⟨p, hp⟩ : ∃ p, l[k]? = some p := ⟨_, List.getElem?_eq_getElem hkl⟩
      have hat : at_ (l.map (·.c)) (k : Int) = p.c := at_map hp
      have hpm := List.mem_of_getElem? hp
      have hpo := hok p hpm
      obtain ⟨hnl, hil⟩ := hsm p hpm
      have hsa : a.isSome = true := by
        cases a with
        | none => rw [ha rfl] at hp; cases hp
        | some b => rfl
      (first | refine wX ?_ | exact wZ)
      refine Nd.mk ⟨hsa, by omega, by omega⟩ ?_
      (first | refine wX ?_ | exact wZ)
      refine LdN.agg (cellC p) rfl (fun w hw => hw.1.1) rfl (fun q hq => by rw [Int.toNat_natCast]; exact grC_get l k q hq hp) ?_
      (first | refine wXB ?_ | exact wZB)
      refine BoxN.known [.int .i64 0, .int .i64 0, .string { data := #[] }, .slice none 0 0, .slice none 0 0] rfl fun cb => ?_
      (first | refine wXB ?_ | exact wZB)
      refine EffW.appTo (i := 5) (q := 0) (ys := cellC p) (cellC p) 5 rfl rfl rfl rfl rfl rfl rfl (Nat.le_of_ble_eq_true rfl) rfl rfl ?_
      (first | refine wXB ?_ | exact wZB)
      refine LdN.one (a := some ⟨cb, 0, none⟩) (q := 3) (.slice p.na p.c.names.length p.nc) rfl (fun w hw => hw.2.2.2.2.2.1) rfl ?_
      (first | refine wXB ?_ | exact wZB)
      refine factG (fun _ => rfl) (cloneT p.na p.nc p.c.names hpo.na hnl) ?_ ?_
      · exact fun w hw => (hw.1.2 p hpm).1
      rintro ⟨nb, nc2⟩ ⟨hnb, hnc⟩
      (first | refine wXB ?_ | exact wZB)
      refine EffW.appTo (i := 5) (q := 3) (ys := [.slice (at0 nb) p.c.names.length nc2]) (cellC ⟨p.c, at0 nb, nc2, p.ia, p.ic⟩) 5 rfl rfl rfl rfl rfl rfl rfl (Nat.le_of_ble_eq_true rfl) rfl rfl ?_
      (first | refine wXB ?_ | exact wZB)
      refine LdN.one (a := some ⟨cb, 0, none⟩) (q := 4) (.slice p.ia p.c.items.length p.ic) rfl (fun w hw => hw.2.2.2.2.2.1) rfl ?_
      (first | refine wXB ?_ | exact wZB)
      refine factG (fun _ => rfl) (cloneI p.ia p.ic p.c.items hpo.ia hil) ?_ ?_
      · exact fun w hw => (hw.1.2 p hpm).2
      rintro ⟨ib, ic2⟩ ⟨hib, hic⟩
      (first | refine wXB ?_ | exact wZB)
      refine EffW.appTo (i := 5) (q := 4) (ys := [.slice (at0 ib) p.c.items.length ic2]) (cellC ⟨p.c, at0 nb, nc2, at0 ib, ic2⟩) 5 rfl rfl rfl rfl rfl rfl rfl (Nat.le_of_ble_eq_true rfl) rfl rfl ?_
      (first | refine wXB ?_ | exact wZB)
      refine LdN.one (a := some ⟨cb, 0, none⟩) (q := 4) (.slice (at0 ib) p.c.items.length ic2) rfl (fun w hw => hw.2.2.2.2.2.1) rfl ?_
      (first | refine wXB ?_ | exact wZB)
      refine LoopN.intro Nat (fun t => t ≤ p.c.items.length)
        (fun t => mkS Tryz.f60.ntmps 0 [(0, .c (.v (.slice a l.length ca))), (6, .c (.v (.map (some mb)))), (9, .c (.v (.slice oa m.length oc))), (12, .c (.v (.pointer (some ⟨cb, 0, none⟩)))), (30, .c (.v (.slice ra L.length rc))), (31, .c (.v (.int .i64 (L.length : Int)))), (32, .c (.v (.int .i64 (j : Int)))), (49, .c (.v (.slice (at0 ib) p.c.items.length ic2))), (50, .c (.v (.int .i64 (p.c.items.length : Int)))), (51, .c (.v (.int .i64 (t : Int))))])
        (fun t => [.fact (GrF a l), .fact G1, .mp mb es c, .app 42 5 (grC m) oa m.length oc, famE (rowsG m), .app 42 5 (cellC ⟨p.c, at0 nb, nc2, at0 ib, ic2⟩) (some ⟨cb, 0, none⟩) 1 1, .app 9 1 (strC p.c.names) (at0 nb) p.c.names.length nc2, .app 3 1 (iC (mixI (place L) t p.c.items)) (at0 ib) p.c.items.length ic2]) (fun t => p.c.items.length - t) [] rfl (fun _ => rfl) (fun _ => rfl) (fun _ _ => okHB_eq rfl) ?_ ?_
      · refine ⟨0, Nat.zero_le _, ?_, wkE_refl _, wkE_refl _, wkE_refl _, wkE_refl _, wkE_refl _, wkE_refl _, wkE_refl _, ?_, trivial⟩
        · (repeat' (first | exact trivial | refine And.intro (by with_reducible rfl) ?_ | (with_reducible exact wkC_refl _) | (with_reducible exact wkCs_refl _) | refine And.intro ?_ ?_))
          all_goals rfl
        · rw [mixI_zero]; exact wkE_refl _
      intro t ht
      (first | refine wXB ?_ | exact wZB)
      refine brd_dec (fun h3 => ?_) (fun h3 => ?_)
      · obtain ⟨y, hy⟩ : ∃ y, p.c.items[t]? = some y := ⟨_, List.getElem?_eq_getElem (by omega)⟩
        obtain ⟨ib, rfl⟩ : ∃ b, ib = some b := by
          cases ib with
          | none => rw [hib rfl] at hy; cases hy
          | some b => exact ⟨b, rfl⟩
        have hyL : y ∈ L := hLc (k : Int) hxL y (by unfold outs; rw [hat]; exact List.mem_of_getElem? hy)
        have hms : mixI (place L) (t + 1) p.c.items = (mixI (place L) t p.c.items).set t (place L y) := by
          unfold mixI
          rw [← mix_set (f := place L) hy]
        have hset : (iC (mixI (place L) t p.c.items)).set t (.int .i64 (place L y)) = iC (mixI (place L) (t + 1) p.c.items) := by
          rw [hms]
          unfold iC
          rw [List.map_set]
        have hq1 : t + 1 ≤ p.c.items.length * 1 := by omega
        have hq2 : t < (iC (mixI (place L) t p.c.items)).length := by unfold iC; rw [List.length_map, mixI_len]; omega
        (first | refine wXB ?_ | exact wZB)
        refine Nd.mk ⟨rfl, by omega, by omega⟩ ?_
        (first | refine wXB ?_ | exact wZB)
        refine LdN.one (.int .i64 y) rfl (fun w hw => hw.2.2.2.2.2.2.2.1) (by rw [Int.toNat_natCast]; show (iC (mixI (place L) t p.c.items))[t * 1]? = _; rw [Nat.mul_one]; exact iC_get (by unfold mixI; rw [mix_get (by omega)]; exact hy)) ?_
        (first | refine wXB ?_ | exact wZB)
        refine LdN.one (a := some ⟨cb, 0, none⟩) (q := 4) (.slice (at0 (some ib)) p.c.items.length ic2) rfl (fun w hw => hw.2.2.2.2.2.1) rfl ?_
        (first | refine wXB ?_ | exact wZB)
        refine ReadW.keyMap (et := 3) (p := y) R rfl (by kernel_rfl) intT rfl rfl rfl rfl (fun w hw => hw.2.2.1) hR ?_
        rw [hval y hyL, Option.getD_some]
        (first | refine wXB ?_ | exact wZB)
        refine Nd.mk ⟨rfl, by omega, by omega⟩ ?_
        (first | refine wXB ?_ | exact wZB)
        refine EffW.appTo (i := 7) (q := t) (ys := [.int .i64 (place L y)]) (iC (mixI (place L) (t + 1) p.c.items)) 1 rfl ?_ rfl rfl rfl rfl rfl hq1 (by rw [put_set _ hq2]; exact hset) rfl ?_
        · rw [Int.toNat_natCast]
          show AV.c (CV.v (Value.pointer (some (((⟨ib, 0, none⟩ : Addr)).add (t * 1))))) = _
          rw [Nat.mul_one]
          exact congrArg (fun x => AV.c (CV.v (Value.pointer (some x)))) (add_lit0 ib t)
        (first | refine wXB ?_ | exact wZB)
        refine ⟨t + 1, by omega, by omega, ?_, wkE_refl _, wkE_refl _, wkE_refl _, wkE_refl _, wkE_refl _, wkE_refl _, wkE_refl _, wkE_refl _, trivial⟩
        (repeat' (first | exact trivial | refine And.intro (by with_reducible rfl) ?_ | (with_reducible exact wkC_refl _) | (with_reducible exact wkCs_refl _) | refine And.intro ?_ ?_))
        all_goals first | rfl | exact av_int (by rw [wrap_i64 (by omega)]; omega)
      · obtain rfl : t = p.c.items.length := by omega
        rw [mixI_all]
        (first | refine wXB ?_ | exact wZB)
        refine LdN.agg (a := some ⟨cb, 0, none⟩) (q := 0) (cellC ⟨p.c, at0 nb, nc2, at0 ib, ic2⟩) rfl (fun w hw => hw.2.2.2.2.2.1) rfl (fun q hq => by rw [Nat.zero_add]) ?_
        (first | refine wXB ?_ | exact wZB)
        refine Nd.mk ⟨Nat.le_refl 1, rfl, rfl⟩ ?_
        (conv => whnf)
        have hnr : reNum (place L) p.c = { p.c with items := p.c.items.map (place L) } := rfl
        have hcc : cellC ⟨p.c, at0 nb, nc2, at0 ib, ic2⟩ = cellC ⟨reNum (place L) p.c, at0 nb, nc2, at0 ib, ic2⟩ := by
          unfold cellC reNum
          simp only [List.length_map]
        refine AppN.grow 3 (grC m) (cellC ⟨p.c, at0 nb, nc2, at0 ib, ic2⟩) rfl rfl ⟨Nat.le_refl 1, ⟨by show (m.length + 1) * 80 ≤ _; omega, by omega⟩, by decide⟩ fun ob2 oc2 hoc2 _ => ?_
        (first | refine wXB ?_ | exact wZB)
        obtain ⟨q, hq⟩ : ∃ q : CellP, q = ⟨reNum (place L) p.c, at0 nb, nc2, at0 ib, ic2⟩ := ⟨_, rfl⟩
        have hm2 : m.length + 1 = (m ++ [q]).length := by simp
        have hg2 := grC_snoc m q
        have hqr : rowsP q = optRow 9 1 p.c.names.length (strC p.c.names) nb nc2 ++ optRow 3 1 p.c.items.length (iC (p.c.items.map (place L))) ib ic2 := by
          rw [hq]
          unfold rowsP optRow reNum
          simp only [List.length_map]
          cases nb <;> cases ib <;> rfl
        have hrw := rowsG_snoc m q
        rw [hqr] at hrw
        have hp1 : (optRow 9 1 p.c.names.length (strC p.c.names) nb nc2 ++ rowsG m).Perm (rowsG m ++ optRow 9 1 p.c.names.length (strC p.c.names) nb nc2) := List.perm_append_comm
        have hp2 : (optRow 3 1 p.c.items.length (iC (p.c.items.map (place L))) ib ic2 ++ (rowsG m ++ optRow 9 1 p.c.names.length (strC p.c.names) nb nc2)).Perm (rowsG (m ++ [q])) := by
          rw [hrw, ← List.append_assoc (rowsG m)]
          exact List.perm_append_comm
        rw [hcc, ← hq, ← hg2, hm2]
        refine ⟨⟨j + 1, some ⟨ob2, 0, none⟩, oc2, m ++ [q]⟩, ⟨by omega, (fun h => by cases h), ?_, ?_, ?_, by omega⟩, by show L.length - (j + 1) < L.length - j; omega, ?_, _, ((famPutO 4 6 nb rfl rfl rfl hp1).trans (famPutO 4 7 ib rfl rfl rfl hp2)).s, wkE_refl _, wkE_refl _, wkE_refl _, wkE_refl _, wkE_refl _, trivial⟩
        · rw [List.take_add_one, hx, List.map_append, hmc, List.map_append]
          show _ ++ [q.c] = _ ++ [reNum (place L) (at_ (l.map (·.c)) (k : Int))]
          rw [hat, hq]
        · intro r hr
          rcases List.mem_append.1 hr with hr | hr
          · exact hmo r hr
          · rw [List.mem_singleton.1 hr, hq]
            exact ⟨fun h => hnb (by cases nb with | none => rfl | some b => cases h), fun h => by
              have : p.c.items = [] := hib (by cases ib with | none => rfl | some b => cases h)
              show (reNum (place L) p.c).items = []
              rw [hnr, this]; rfl, hpo.nl, by show (reNum (place L) p.c).items.length ≤ _; rw [hnr]; simp only [List.length_map]; omega, hpo.nw, hpo.tl, hnc, by show (reNum (place L) p.c).items.length ≤ ic2; rw [hnr]; simp only [List.length_map]; exact hic⟩
        · intro r hr
          rcases List.mem_append.1 hr with hr | hr
          · exact hmw r hr
          · rw [List.mem_singleton.1 hr, hq]
            exact ⟨fun ad h => by cases nb with | none => cases h | some b => cases h; rfl, fun ad h => by cases ib with | none => cases h | some b => cases h; rfl⟩
        · (repeat' (first | exact trivial | refine And.intro (by with_reducible rfl) ?_ | (with_reducible exact wkC_refl _) | (with_reducible exact wkCs_refl _) | refine And.intro ?_ ?_))
          all_goals first | rfl | exact av_int (by rw [wrap_i64 (by omega)]; omega)
    · obtain rfl : j = L.length := by omega
      rw [List.take_length] at hmc
      (first | refine wX ?_ | exact wZ)
      exact ⟨⟨0, oa, oc, m⟩, ⟨hoa, hmc, hmo, hmw, hoc⟩, rfl, trivial, trivial, trivial, wkE_refl _, wkE_refl _, trivial⟩
end Go.Proofs.YtahjbnfbilkbcaaGreatDoor

/-
  Contract: the document's list of pairs (equal).
-/
namespace Go.Core
/-- A pair's place among all. -/
def idxP (n : Nat) (p : Int × Int) : Nat := p.1.toNat * n + p.2.toNat
theorem idxP_lt {g : List Cell} {p : Int × Int} (h : InP g p) : idxP g.length p < g.length * g.length := by
  obtain ⟨⟨h1, h2⟩, h3, h4⟩ := h
  unfold idxP
  have : (p.1.toNat + 1) * g.length ≤ g.length * g.length := Nat.mul_le_mul_right _ (by omega)
  rw [Nat.add_mul, Nat.one_mul] at this
  omega
theorem idxP_inj {g : List Cell} {p q : Int × Int} (hp : InP g p) (hq : InP g q) (h : idxP g.length p = idxP g.length q) : p = q := by
  obtain ⟨⟨a1, a2⟩, a3, a4⟩ := hp
  obtain ⟨⟨b1, b2⟩, b3, b4⟩ := hq
  unfold idxP at h
  have m1 : (p.1.toNat * g.length + p.2.toNat) % g.length = p.2.toNat := by rw [Nat.mul_add_mod_self_right]; exact Nat.mod_eq_of_lt (by omega)
  have m2 : (q.1.toNat * g.length + q.2.toNat) % g.length = q.2.toNat := by rw [Nat.mul_add_mod_self_right]; exact Nat.mod_eq_of_lt (by omega)
  have hz : p.2.toNat = q.2.toNat := by rw [← m1, ← m2, h]
  have hx : p.1.toNat = q.1.toNat := Nat.eq_of_mul_eq_mul_right (show 0 < g.length by omega) (by omega)
  exact Prod.ext (by omega) (by omega)
/-- Which pairs were seen. -/
structure SeenS (g : List Cell) (l : List (Int × Int)) (S : List Bool) : Prop where
  len : S.length = g.length * g.length
  get : ∀ p, InP g p → S[idxP g.length p]? = some (decide (p ∈ l))
theorem SeenS.none (g : List Cell) : SeenS g [] (List.replicate (g.length * g.length) false) := ⟨by simp, fun p hp => by rw [List.getElem?_replicate, if_pos (idxP_lt hp)]; simp⟩
theorem SeenS.put {g : List Cell} {l : List (Int × Int)} {S : List Bool} (h : SeenS g l S) {p : Int × Int} (hp : InP g p) : SeenS g (l ++ [p]) (S.set (idxP g.length p) true) := by
  refine ⟨by rw [List.length_set, h.len], fun q hq => ?_⟩
  by_cases e : q = p
  · subst e
    rw [List.getElem?_set_self (by rw [h.len]; exact idxP_lt hq)]
    simp
  · rw [List.getElem?_set_ne (fun he => e (idxP_inj hp hq he).symm), h.get q hq]
    simp [e]
end Go.Core
namespace Go.Proofs.YtahjbnfbilkbcaaGreatDoor
open Go.AX Go.RowKit Go.Core
set_option maxRecDepth 20000

end Go.Proofs.YtahjbnfbilkbcaaGreatDoor

/-
  Contracts: OneKey, Equal (document), OneKey (program); CoreEquals (law).
-/
namespace Go.Core
theorem ask2 {g : List Cell} {u v : Int} : AskP g [u, v] ↔ AskP g [u] ∧ AskP g [v] := by
  constructor
  · intro h
    exact ⟨⟨h.1, fun x hx => h.2 x (by rw [List.mem_singleton.1 hx]; simp)⟩, h.1, fun x hx => h.2 x (by rw [List.mem_singleton.1 hx]; simp)⟩
  · intro ⟨h1, h2⟩
    refine ⟨h1.1, fun x hx => ?_⟩
    rcases List.mem_cons.1 hx with rfl | hx
    · exact h1.2 x (by simp)
    · exact h2.2 x hx
end Go.Core
namespace Go.Proofs.YtahjbnfbilkbcaaGreatDoor
open Go.AX Go.RowKit Go.Core
set_option maxRecDepth 20000

theorem ask_bool (g : List Cell) (cs : List Int) : ∃ b : Bool, b = true ↔ AskP g cs := by
  by_cases h : AskP g cs
  · exact ⟨true, fun _ => h, fun _ => rfl⟩
  · exact ⟨false, (fun h => by cases h), fun h2 => absurd h2 h⟩
end Go.Proofs.YtahjbnfbilkbcaaGreatDoor

/-
  Contracts: Reach, Circular, Depth (program).
-/
namespace Go.Proofs.YtahjbnfbilkbcaaGreatDoor
open Go.AX Go.RowKit Go.Core
set_option maxRecDepth 20000

end Go.Proofs.YtahjbnfbilkbcaaGreatDoor

/-
  Contract: Copy (program), with memory of the caller's own.
-/
namespace Go.Proofs.YtahjbnfbilkbcaaGreatDoor
open Go.AX Go.RowKit Go.Core
set_option maxRecDepth 20000

end Go.Proofs.YtahjbnfbilkbcaaGreatDoor

/-
  Contracts: what is reached, whether a circle is, how deep (document).
-/
namespace Go.Proofs.YtahjbnfbilkbcaaGreatDoor
open Go.AX Go.RowKit Go.Core
set_option maxRecDepth 20000

def rdH (F : World → Prop) (L : List Int) (o : BSt) : List Ent := [.app 3 1 (iC L) (at0 o.ob) L.length o.cap, .fact F]
theorem rdH_ok (F : World → Prop) (L : List Int) (o : BSt) : okH (rdH F L o).length (rdH F L o) := okHB_eq rfl
set_option maxHeartbeats 4000000 in
theorem reached_c (a : Option Addr) (ca : Nat) (l : List CellP) (ha : a = none → l = []) (hs : Small l) (hok : ∀ p ∈ l, CellOk p) (hg : InG (l.map (·.c))) : ∀ (n : Nat) (L : List Int) (o : BSt) (i : Int), InI (l.map (·.c)) i → freeN (l.map (·.c)) L < n → L.length + freeN (l.map (·.c)) L ≤ 3000 → o.ok L.length →
    SpecH Tryz.prog 68 (pvs [.slice a l.length ca, .int .i64 i, .slice (at0 o.ob) L.length o.cap]) (rdH (GrF a l) L o) (RetG (ι := BSt) (fun o => o.ok (reachF (l.map (·.c)) n L i).length) (fun o => .slice (at0 o.ob) (reachF (l.map (·.c)) n L i).length o.cap) (fun o => rdH (GrF a l) (reachF (l.map (·.c)) n L i) o)) := by
  intro n
  induction n with
  | zero => intro L o i _ h; omega
  | succ n ih =>
    rintro L ⟨ob0, ocap⟩ i0 hi hn hlen ho
    obtain ⟨i, rfl⟩ : ∃ i : Nat, i0 = (i : Int) := ⟨i0.toNat, by have := hi.1; omega⟩
    have hil : i < l.length := by have := hi.2; simp only [List.length_map] at this; omega
    obtain ⟨p, hp⟩ : ∃ x, l[i]? = some x := ⟨_, List.getElem?_eq_getElem hil⟩
    have hpm := List.mem_of_getElem? hp
    have hpo := hok p hpm
    have hps := hs.2 p hpm
    have hl := hs.1
    have hsa : a.isSome = true := by
      cases a with
      | none => rw [ha rfl] at hil; exact absurd hil (Nat.not_lt_zero _)
      | some b => rfl
    refine ownC hm Tryz.func68 (by kernel_rfl) rfl rfl (fun _ _ => rdH_ok _ _ _) (fun _ _ => Nat.le_refl _) ?_
    (first | refine wX ?_ | exact wZ)
    refine call1 (rHas_c (at0 ob0) ocap L (i : Int) (fun h => by cases ob0 with | none => exact List.eq_nil_of_length_eq_zero (ho.1 rfl).1 | some b => cases h) (by omega) _ (fun w hw => hw.1)) ?_
    cases hmem : decide ((i : Int) ∈ L) with
    | true =>
      have hsf : reachF (l.map (·.c)) (n + 1) L (i : Int) = L := by unfold reachF; rw [if_pos (of_decide_eq_true hmem)]
      rw [hsf]
      (first | refine wX ?_ | exact wZ)
      exact ⟨⟨ob0, ocap⟩, ho, rfl, wkH_refl _⟩
    | false =>
    have hmem2 : ¬ (i : Int) ∈ L := of_decide_eq_false hmem
    have hsf : reachF (l.map (·.c)) (n + 1) L (i : Int) = (outs (l.map (·.c)) (i : Int)).foldl (reachF (l.map (·.c)) n) (L ++ [(i : Int)]) := by
      conv => lhs; unfold reachF
      rw [if_neg hmem2]
    rw [hsf, show outs (l.map (·.c)) (i : Int) = p.c.items by unfold outs; rw [at_map hp]]
    have hlt := free_lt hi hmem2 (t := L ++ [(i : Int)]) (fun x hx => by simp [hx]) (by simp)
    (first | refine wX ?_ | exact wZ)
    try refine Nd.mk ⟨Nat.le_refl 1, rfl, rfl⟩ ?_
    (conv => whnf)
    refine AppN.grow 0 (iC L) [.int .i64 (i : Int)] rfl rfl ⟨Nat.le_refl 1, ⟨by show (L.length + 1) * 8 ≤ _; omega, by omega⟩, Nat.one_ne_zero⟩ fun wb wc hwc _ => ?_
    have hcl : iC L ++ [.int .i64 (i : Int)] = iC (L ++ [(i : Int)]) := by simp [iC]
    have hll : L.length + 1 = (L ++ [(i : Int)]).length := by simp
    have hlen2 : (L ++ [(i : Int)]).length + freeN (l.map (·.c)) (L ++ [(i : Int)]) ≤ 3000 := by rw [← hll]; omega
    rw [hcl, hll]
    have hwc2 : (L ++ [(i : Int)]).length ≤ wc := by rw [← hll]; exact hwc
    generalize L ++ [(i : Int)] = L2 at *
    have hitem : ∀ x ∈ p.c.items, InI (l.map (·.c)) x := fun x hx => outs_in hg hi (by unfold outs; rw [at_map hp]; exact hx)
    obtain ⟨f, hf⟩ : ∃ f, f = reachF (l.map (·.c)) n := ⟨_, rfl⟩
    have hfl : ∀ k, ((p.c.items.take k).foldl f L2).length + freeN (l.map (·.c)) ((p.c.items.take k).foldl f L2) ≤ 3000 := fun k => by
      rw [hf]
      have := fold_len (g := l.map (·.c)) (fun L k hk => reach_len hg n L k hk) (p.c.items.take k) L2 (fun x hx => hitem x (List.mem_of_mem_take hx))
      omega
    have hff : ∀ k, freeN (l.map (·.c)) ((p.c.items.take k).foldl f L2) < n := fun k => by
      rw [hf]
      have := free_mono (g := l.map (·.c)) (s := L2) (t := (p.c.items.take k).foldl (reachF (l.map (·.c)) n) L2) (fun x hx => fold_sub _ n x _ _ hx)
      omega
    rw [← hf] at ih ⊢
    (first | refine wX ?_ | exact wZ)
    refine LoopN.intro (Nat × BSt) (fun ⟨k, o⟩ => k ≤ p.c.items.length ∧ o.ok ((p.c.items.take k).foldl f L2).length)
      (fun ⟨k, o⟩ => mkS Tryz.f68.ntmps 0 [(0, .c (.v (.slice a l.length ca))), (1, .c (.v (.int .i64 (i : Int)))), (2, .c (.v (.slice (at0 o.ob) ((p.c.items.take k).foldl f L2).length o.cap))), (7, .c (.v (.int .i64 (k : Int))))])
      (fun ⟨k, o⟩ => rdH (GrF a l) ((p.c.items.take k).foldl f L2) o ++ [.dead]) (fun ⟨k, _⟩ => p.c.items.length - k) [] rfl (fun ⟨_, _⟩ => rfl) (fun ⟨_, _⟩ => rfl) (fun ⟨_, _⟩ _ => okHB_eq rfl) ?_ ?_
    · refine ⟨(0, ⟨some wb, wc⟩), ⟨Nat.zero_le _, (fun h => by cases h), hwc2, fun h => by have : wc = 0 := h; omega⟩, ?_, wkE_refl _, wkE_refl _, trivial, trivial⟩
      (repeat' (first | exact trivial | refine And.intro (by with_reducible rfl) ?_ | (with_reducible exact wkC_refl _) | (with_reducible exact wkCs_refl _) | refine And.intro ?_ ?_))
      all_goals rfl
    rintro ⟨k, o⟩ ⟨hk3, hst⟩
    (first | refine wX ?_ | exact wZ)
    refine Nd.mk ⟨hsa, by omega, by omega⟩ ?_
    (first | refine wX ?_ | exact wZ)
    refine LdN.fld (.slice p.ia p.c.items.length p.ic) rfl (fun w hw => hw.2.1.1) (by rw [Int.toNat_natCast]; exact grC_get l i 4 (by decide) hp) ?_
    (first | refine wX ?_ | exact wZ)
    refine brd_dec (fun h1 => ?_) (fun h1 => ?_)
    · obtain ⟨x, hx⟩ : ∃ z, p.c.items[k]? = some z := ⟨_, List.getElem?_eq_getElem (by omega)⟩
      have hxa : p.ia.isSome = true := by
        cases hq : p.ia with
        | none => rw [hpo.ia hq] at hx; cases hx
        | some b => rfl
      (first | refine wX ?_ | exact wZ)
      refine Nd.mk ⟨hsa, by omega, by omega⟩ ?_
      (first | refine wX ?_ | exact wZ)
      refine LdN.fld (.slice p.ia p.c.items.length p.ic) rfl (fun w hw => hw.2.1.1) (by rw [Int.toNat_natCast]; exact grC_get l i 4 (by decide) hp) ?_
      (first | refine wX ?_ | exact wZ)
      refine Nd.mk ⟨hxa, by omega, by omega⟩ ?_
      (first | refine wX ?_ | exact wZ)
      refine LdN.one (.int .i64 x) rfl (fun w hw => (hw.2.1.2 p hpm).2) (by rw [Int.toNat_natCast]; show (iC p.c.items)[k * 1]? = _; rw [Nat.mul_one]; exact iC_get hx) ?_
      (first | refine wX ?_ | exact wZ)
      refine callG (ih ((p.c.items.take k).foldl f L2) o x (hitem x (List.mem_of_getElem? hx)) (hff k) (hfl k) hst) [0, 1] rfl ⟨rfl, rfl, trivial⟩ rfl fun o2 hst2 => ?_
      have hnx : f ((p.c.items.take k).foldl f L2) x = (p.c.items.take (k + 1)).foldl f L2 := (foldl_take hx).symm
      rw [hnx] at hst2 ⊢
      (first | refine wX ?_ | exact wZ)
      refine ⟨(k + 1, o2), ⟨by omega, hst2⟩, by show p.c.items.length - (k + 1) < p.c.items.length - k; omega, ?_, wkH_refl _⟩
      (repeat' (first | exact trivial | refine And.intro (by with_reducible rfl) ?_ | (with_reducible exact wkC_refl _) | (with_reducible exact wkCs_refl _) | refine And.intro ?_ ?_))
      all_goals first | rfl | exact av_int (by rw [wrap_i64 (by omega)]; omega)
    · have hkl : k = p.c.items.length := by omega
      subst hkl
      rw [List.take_length] at hst ⊢
      (first | refine wX ?_ | exact wZ)
      exact ⟨o, hst, rfl, wkE_refl _, wkE_refl _, trivial⟩
end Go.Proofs.YtahjbnfbilkbcaaGreatDoor

/-
  Contract: whether a circle is reached (document).
-/
namespace Go.Core
end Go.Core
namespace Go.Proofs.YtahjbnfbilkbcaaGreatDoor
open Go.AX Go.RowKit Go.Core
set_option maxRecDepth 20000

end Go.Proofs.YtahjbnfbilkbcaaGreatDoor

/-
  Contract: how deep (document).
-/
namespace Go.Core
/-- What is known already. -/
def KnD (g : List Cell) (S : List Int) : Prop := S.length = g.length ∧ ∀ (j : Nat) (v : Int), S[j]? = some v → v = 0 ∨ (v = (dep g (j : Int) : Int) ∧ 0 < v)
theorem KnD.none (g : List Cell) : KnD g (List.replicate g.length 0) := ⟨by simp, fun j v h => by
  rw [List.getElem?_replicate] at h
  split at h
  · exact .inl (Option.some.inj h).symm
  · cases h⟩
theorem KnD.put {g : List Cell} {S : List Int} (h : KnD g S) {i : Nat} (hp : 0 < dep g (i : Int)) : KnD g (S.set i (dep g (i : Int) : Int)) := by
  refine ⟨by rw [List.length_set, h.1], fun j v hj => ?_⟩
  by_cases e : i = j
  · subst e
    rw [List.getElem?_set] at hj
    simp only [if_true] at hj
    split at hj
    · cases hj; exact .inr ⟨rfl, by omega⟩
    · cases hj
  · rw [List.getElem?_set_ne e] at hj
    exact h.2 j v hj
end Go.Core
namespace Go.Proofs.YtahjbnfbilkbcaaGreatDoor
open Go.AX Go.RowKit Go.Core
set_option maxRecDepth 20000

end Go.Proofs.YtahjbnfbilkbcaaGreatDoor

/-
  Contracts: Reach, Circular, Depth (document); CoreReaches (law).
-/
namespace Go.Proofs.YtahjbnfbilkbcaaGreatDoor
open Go.AX Go.RowKit Go.Core
set_option maxRecDepth 20000

end Go.Proofs.YtahjbnfbilkbcaaGreatDoor

/-
  Contract: own, copied, Copy (document), with memory of the caller's own.
-/
namespace Go.Proofs.YtahjbnfbilkbcaaGreatDoor
open Go.AX Go.RowKit Go.Core
set_option maxRecDepth 20000

set_option maxHeartbeats 4000000 in
theorem own_o (p : CellP) (hpo : CellOk p) (hnl : p.c.names.length ≤ 2000) (hil : p.c.items.length ≤ 2000) : SpecH Tryz.prog 79 (pvs [cellV p]) [.fact (CellF p)] (RetG (ι := Nat × Nat × Nat × Nat) (fun o => p.c.names.length ≤ o.2.1 ∧ p.c.items.length ≤ o.2.2.2) (fun o => cellV ⟨p.c, some ⟨o.1, 0, none⟩, o.2.1, some ⟨o.2.2.1, 0, none⟩, o.2.2.2⟩) (fun o => [.dead, .dead, .dead, .app 9 1 (strC p.c.names) (some ⟨o.1, 0, none⟩) p.c.names.length o.2.1, .app 3 1 (iC p.c.items) (some ⟨o.2.2.1, 0, none⟩) p.c.items.length o.2.2.2])) := by
  refine ownC hm Tryz.func79 (by kernel_rfl) rfl rfl (fun _ _ => okHB_eq rfl) (fun _ _ => by show 1 ≤ 5; decide) ?_
  ((conv => whnf); (repeat ((first | refine VrN.norm (wrap_i64 (by omega)) ?_ | refine VrN.keep ?_ | refine DrawN.calm (by decide +kernel) ?_ | refine Nd.mk (by decide +kernel) ?_ | refine Nd.mk (by omega) ?_ | refine RdN.intro _ rfl (by rfl) ?_); (conv => whnf))))
  refine BoxN.known (cellC p) rfl fun cb => ?_
  ((conv => whnf); (repeat ((first | refine VrN.norm (wrap_i64 (by omega)) ?_ | refine VrN.keep ?_ | refine DrawN.calm (by decide +kernel) ?_ | refine Nd.mk (by decide +kernel) ?_ | refine Nd.mk (by omega) ?_ | refine RdN.intro _ rfl (by rfl) ?_); (conv => whnf))))
  refine BoxN.own ?_
  ((conv => whnf); (repeat ((first | refine VrN.norm (wrap_i64 (by omega)) ?_ | refine VrN.keep ?_ | refine DrawN.calm (by decide +kernel) ?_ | refine Nd.mk (by decide +kernel) ?_ | refine Nd.mk (by omega) ?_ | refine RdN.intro _ rfl (by rfl) ?_); (conv => whnf))))
  refine RwN.known [] rfl fun nb => ?_
  ((conv => whnf); (repeat ((first | refine VrN.norm (wrap_i64 (by omega)) ?_ | refine VrN.keep ?_ | refine DrawN.calm (by decide +kernel) ?_ | refine Nd.mk (by decide +kernel) ?_ | refine Nd.mk (by omega) ?_ | refine RdN.intro _ rfl (by rfl) ?_); (conv => whnf))))
  refine LdN.one (a := some ⟨cb, 0, none⟩) (q := 3) (.slice p.na p.c.names.length p.nc) rfl (fun w hw => hw.2.1) rfl ?_
  ((conv => whnf); (repeat ((first | refine VrN.norm (wrap_i64 (by omega)) ?_ | refine VrN.keep ?_ | refine DrawN.calm (by decide +kernel) ?_ | refine Nd.mk (by decide +kernel) ?_ | refine Nd.mk (by omega) ?_ | refine RdN.intro _ rfl (by rfl) ?_); (conv => whnf))))
  refine app_any 3 [] (strC p.c.names) rfl (Nat.le_refl _) (fun h => by cases hq : p.na with | none => rw [hpo.na hq] at h; cases h | some b => rfl) (by show (strC p.c.names).length = p.c.names.length * 1; simp [strC]) (fun u hu => by obtain ⟨x, _, rfl⟩ := List.mem_map.1 hu; rfl) (fun w hw j v hv => hw.1.1.cell hv) ⟨⟨by show (0 + p.c.names.length) * 16 ≤ _; omega, by omega⟩, Nat.one_ne_zero⟩ fun nb2 nc2 hnc2 => ?_
  rw [Nat.zero_add, List.nil_append]
  ((conv => whnf); (repeat ((first | refine VrN.norm (wrap_i64 (by omega)) ?_ | refine VrN.keep ?_ | refine DrawN.calm (by decide +kernel) ?_ | refine Nd.mk (by decide +kernel) ?_ | refine Nd.mk (by omega) ?_ | refine RdN.intro _ rfl (by rfl) ?_); (conv => whnf))))
  refine EffW.appTo (i := 1) (q := 3) (ys := [.slice (some ⟨nb2, 0, none⟩) p.c.names.length nc2]) (cellC ⟨p.c, some ⟨nb2, 0, none⟩, nc2, p.ia, p.ic⟩) 5 rfl rfl rfl rfl rfl rfl rfl (Nat.le_of_ble_eq_true rfl) rfl rfl ?_
  ((conv => whnf); (repeat ((first | refine VrN.norm (wrap_i64 (by omega)) ?_ | refine VrN.keep ?_ | refine DrawN.calm (by decide +kernel) ?_ | refine Nd.mk (by decide +kernel) ?_ | refine Nd.mk (by omega) ?_ | refine RdN.intro _ rfl (by rfl) ?_); (conv => whnf))))
  refine RwN.known [] rfl fun ib => ?_
  ((conv => whnf); (repeat ((first | refine VrN.norm (wrap_i64 (by omega)) ?_ | refine VrN.keep ?_ | refine DrawN.calm (by decide +kernel) ?_ | refine Nd.mk (by decide +kernel) ?_ | refine Nd.mk (by omega) ?_ | refine RdN.intro _ rfl (by rfl) ?_); (conv => whnf))))
  refine LdN.one (a := some ⟨cb, 0, none⟩) (q := 4) (.slice p.ia p.c.items.length p.ic) rfl (fun w hw => hw.2.1) rfl ?_
  ((conv => whnf); (repeat ((first | refine VrN.norm (wrap_i64 (by omega)) ?_ | refine VrN.keep ?_ | refine DrawN.calm (by decide +kernel) ?_ | refine Nd.mk (by decide +kernel) ?_ | refine Nd.mk (by omega) ?_ | refine RdN.intro _ rfl (by rfl) ?_); (conv => whnf))))
  refine app_any 4 [] (iC p.c.items) rfl (Nat.le_refl _) (fun h => by cases hq : p.ia with | none => rw [hpo.ia hq] at h; cases h | some b => rfl) (by show (iC p.c.items).length = p.c.items.length * 1; simp [iC]) (fun u hu => by obtain ⟨x, _, rfl⟩ := List.mem_map.1 hu; rfl) (fun w hw j v hv => hw.1.2.cell hv) ⟨⟨by show (0 + p.c.items.length) * 8 ≤ _; omega, by omega⟩, Nat.one_ne_zero⟩ fun ib2 ic2 hic2 => ?_
  rw [Nat.zero_add, List.nil_append]
  ((conv => whnf); (repeat ((first | refine VrN.norm (wrap_i64 (by omega)) ?_ | refine VrN.keep ?_ | refine DrawN.calm (by decide +kernel) ?_ | refine Nd.mk (by decide +kernel) ?_ | refine Nd.mk (by omega) ?_ | refine RdN.intro _ rfl (by rfl) ?_); (conv => whnf))))
  refine EffW.appTo (i := 1) (q := 4) (ys := [.slice (some ⟨ib2, 0, none⟩) p.c.items.length ic2]) (cellC ⟨p.c, some ⟨nb2, 0, none⟩, nc2, some ⟨ib2, 0, none⟩, ic2⟩) 5 rfl rfl rfl rfl rfl rfl rfl (Nat.le_of_ble_eq_true rfl) rfl rfl ?_
  ((conv => whnf); (repeat ((first | refine VrN.norm (wrap_i64 (by omega)) ?_ | refine VrN.keep ?_ | refine DrawN.calm (by decide +kernel) ?_ | refine Nd.mk (by decide +kernel) ?_ | refine Nd.mk (by omega) ?_ | refine RdN.intro _ rfl (by rfl) ?_); (conv => whnf))))
  refine LdN.agg (a := some ⟨cb, 0, none⟩) (q := 0) (cellC ⟨p.c, some ⟨nb2, 0, none⟩, nc2, some ⟨ib2, 0, none⟩, ic2⟩) rfl (fun w hw => hw.2.1) rfl (fun q hq => by rw [Nat.zero_add]) ?_
  ((conv => whnf); (repeat ((first | refine VrN.norm (wrap_i64 (by omega)) ?_ | refine VrN.keep ?_ | refine DrawN.calm (by decide +kernel) ?_ | refine Nd.mk (by decide +kernel) ?_ | refine Nd.mk (by omega) ?_ | refine RdN.intro _ rfl (by rfl) ?_); (conv => whnf))))
  exact ⟨(nb2, nc2, ib2, ic2), ⟨by show p.c.names.length ≤ nc2; omega, by show p.c.items.length ≤ ic2; omega⟩, rfl, trivial, trivial, trivial, wkE_refl _, wkE_refl _, trivial⟩
/-- The places of the first cells are noted. -/
def okP (n : Nat) (L : List Int) (j : Nat) (P : List Int) : Prop := P.length = n ∧ ∀ x ∈ L.take j, P[x.toNat]? = some (place L x)
set_option maxHeartbeats 4000000 in
theorem copied_o (a : Option Addr) (ca : Nat) (l : List CellP) (ha : a = none → l = []) (hs : Small l) (h500 : l.length ≤ 500) (hok : ∀ p ∈ l, CellOk p) (hg : InG (l.map (·.c))) (i0 : Int) (hi0 : InI (l.map (·.c)) i0) : SpecH Tryz.prog 61 (pvs [.slice a l.length ca, .int .i64 i0]) [.fact (GrF a l)] (RetG (MInv (takenS (l.map (·.c)) (reachL (l.map (·.c)) i0))) (fun st => .slice st.oa st.m.length st.oc) (fun st => .dead :: .dead :: .dead :: ownN 73 st)) := by
  have hs0 := hs
  obtain ⟨hl, hsm⟩ := hs
  refine ownC hm Tryz.func61 (by kernel_rfl) rfl rfl (fun _ _ => okHB_eq rfl) (fun _ _ => by show 1 ≤ 5; decide) ?_
  (first | refine wX ?_ | exact wZ)
  have hfr := free_le (l.map (·.c)) []
  have hgl : (l.map (·.c)).length = l.length := by simp
  refine SpecH.pad [.app 3 1 [] none 0 0] rfl ?_
  refine callG (reached_c a ca l ha hs0 hok hg ((l.map (·.c)).length + 1) [] ⟨none, 0⟩ i0 hi0 (by omega) (by simp only [List.length_nil]; omega) ⟨fun _ => ⟨rfl, rfl⟩, Nat.le_refl _, fun _ => rfl⟩) [1, 0] rfl ⟨rfl, rfl, trivial⟩ rfl fun o ho => ?_
  obtain ⟨rb, rc⟩ := o
  rw [show reachF (l.map (·.c)) ((l.map (·.c)).length + 1) [] i0 = reachL (l.map (·.c)) i0 from rfl] at ho ⊢
  obtain ⟨L, hL⟩ : ∃ L, L = reachL (l.map (·.c)) i0 := ⟨_, rfl⟩
  have hLn : L.Nodup := by rw [hL]; exact reach_nodup _ _ _ List.nodup_nil
  have hLi : ∀ x, x ∈ L ↔ To (l.map (·.c)) i0 x := fun x => by rw [hL]; exact reach_iff hg (Nat.lt_succ_self _) hi0 x
  have hLl : L.length ≤ l.length := by
    have h1 := reach_len hg ((l.map (·.c)).length + 1) [] i0 hi0
    rw [hL]
    unfold reachL
    simp only [List.length_nil] at h1
    omega
  rw [← hL] at ho ⊢
  clear hL
  have hLc : ∀ x ∈ L, ∀ y ∈ outs (l.map (·.c)) x, y ∈ L := fun x hx y hy => (hLi y).2 (((hLi x).1 hx).trans (.step hy (.refl y)))
  have hLg : ∀ x ∈ L, InI (l.map (·.c)) x := fun x hx => to_in hg hi0 ((hLi x).1 hx)
  clear hLi
  (first | refine wX ?_ | exact wZ)
  refine EffW.mkRow (e := 3) l.length (iC (List.replicate l.length 0)) rfl (by kernel_rfl) rfl rfl rfl rfl rfl rfl ⟨by omega, by decide⟩ (by unfold iC; rw [List.map_replicate]) fun kb => ?_
  (first | refine wX ?_ | exact wZ)
  refine LoopN.intro (Nat × List Int) (fun ⟨j, P⟩ => j ≤ L.length ∧ okP l.length L j P)
    (fun ⟨j, _⟩ => mkS Tryz.f61.ntmps 0 [(0, .c (.v (.slice a l.length ca))), (5, .c (.v (.slice (at0 rb) L.length rc))), (6, .c (.v (.slice (some ⟨kb, 0, none⟩) l.length l.length))), (7, .c (.v (.int .i64 (j : Int))))])
    (fun ⟨_, P⟩ => [.fact (GrF a l), .app 3 1 (iC L) (at0 rb) L.length rc, .app 3 1 (iC P) (some ⟨kb, 0, none⟩) l.length l.length]) (fun ⟨j, _⟩ => L.length - j) [] rfl (fun ⟨_, _⟩ => rfl) (fun ⟨_, _⟩ => rfl) (fun ⟨_, _⟩ _ => okHB_eq rfl) ?_ ?_
  · refine ⟨(0, List.replicate l.length 0), ⟨Nat.zero_le _, by simp, fun x h => by cases h⟩, ?_, wkE_refl _, wkE_refl _, wkE_refl _, trivial⟩
    (repeat' (first | exact trivial | refine And.intro (by with_reducible rfl) ?_ | (with_reducible exact wkC_refl _) | (with_reducible exact wkCs_refl _) | refine And.intro ?_ ?_))
    all_goals rfl
  rintro ⟨j, P⟩ ⟨hj, hPl, hP⟩
  have hrs : ∀ {x : Int}, x ∈ L → (at0 rb).isSome = true := fun {x} h => by
    cases rb with
    | none => rw [List.eq_nil_of_length_eq_zero (ho.1 rfl).1] at h; cases h
    | some b => rfl
  (first | refine wX ?_ | exact wZ)
  refine brd_dec (fun h1 => ?_) (fun h1 => ?_)
  · obtain ⟨x, hx⟩ : ∃ x, L[j]? = some x := ⟨_, List.getElem?_eq_getElem (by omega)⟩
    have hxL := List.mem_of_getElem? hx
    have hra2 := hrs hxL
    have hxi := hLg x hxL
    have hx2 : x < (l.length : Int) := by have := hxi.2; rw [hgl] at this; exact this
    have hx1 := hxi.1
    (first | refine wX ?_ | exact wZ)
    refine Nd.mk ⟨hra2, by omega, by omega⟩ ?_
    (first | refine wX ?_ | exact wZ)
    refine LdN.one (.int .i64 x) rfl (fun w hw => hw.2.1) (by rw [Int.toNat_natCast]; show (iC L)[j * 1]? = _; rw [Nat.mul_one]; exact iC_get hx) ?_
    (first | refine wX ?_ | exact wZ)
    refine Nd.mk ⟨rfl, by omega, by omega⟩ ?_
    (first | refine wX ?_ | exact wZ)
    have hq1 : x.toNat + 1 ≤ l.length * 1 := by omega
    have hq2 : x.toNat < (iC P).length := by unfold iC; rw [List.length_map, hPl]; omega
    have hset : (iC P).set x.toNat (.int .i64 (j : Int)) = iC (P.set x.toNat (j : Int)) := by
      unfold iC
      rw [List.map_set]
    refine EffW.appTo (i := 2) (q := x.toNat) (ys := [.int .i64 (j : Int)]) (iC (P.set x.toNat (j : Int))) 1 rfl ?_ rfl rfl rfl rfl rfl hq1 (by rw [put_set _ hq2]; exact hset) rfl ?_
    · show AV.c (CV.v (Value.pointer (some ((⟨kb, 0, none⟩ : Addr).add (x.toNat * 1))))) = _
      rw [Nat.mul_one]
      exact congrArg (fun x => AV.c (CV.v (Value.pointer (some x)))) (add_lit0 kb x.toNat)
    (first | refine wX ?_ | exact wZ)
    refine ⟨(j + 1, P.set x.toNat (j : Int)), ⟨by omega, by rw [List.length_set]; exact hPl, fun y hy => ?_⟩, by show L.length - (j + 1) < L.length - j; omega, ?_, wkE_refl _, wkE_refl _, wkE_refl _, trivial⟩
    · rw [List.take_add_one, hx] at hy
      by_cases hxy : y = x
      · rw [hxy, List.getElem?_set_self (by omega), place_at hLn hx]
      · have hyL : y ∈ L.take j := by
          rcases List.mem_append.1 hy with hy | hy
          · exact hy
          · exact absurd (List.mem_singleton.1 hy) hxy
        have hyi := hLg y (List.mem_of_mem_take hyL)
        rw [List.getElem?_set_ne (fun e => hxy (by have := hyi.1; omega))]
        exact hP y hyL
    · (repeat' (first | exact trivial | refine And.intro (by with_reducible rfl) ?_ | (with_reducible exact wkC_refl _) | (with_reducible exact wkCs_refl _) | refine And.intro ?_ ?_))
      all_goals first | rfl | exact av_int (by rw [wrap_i64 (by omega)]; omega)
  · have hjl : j = L.length := by omega
    subst hjl
    rw [List.take_length] at hP
    (first | refine wX ?_ | exact wZ)
    refine LoopN.introS DSt (fun ⟨j, oa, oc, m⟩ => j ≤ L.length ∧ (oa = none → m = []) ∧ m.map (·.c) = (L.take j).map (fun k => reNum (place L) (at_ (l.map (·.c)) k)) ∧ (∀ p ∈ m, CellOk p) ∧ (∀ p ∈ m, OwnP p) ∧ m.length ≤ oc)
      (fun ⟨j, oa, oc, m⟩ => mkS Tryz.f61.ntmps 0 [(0, .c (.v (.slice a l.length ca))), (5, .c (.v (.slice (at0 rb) L.length rc))), (6, .c (.v (.slice (some ⟨kb, 0, none⟩) l.length l.length))), (8, .c (.v (.slice oa m.length oc))), (9, .c (.v (.int .i64 (j : Int))))])
      (fun ⟨_, oa, oc, m⟩ => [.fact (GrF a l), .app 3 1 (iC L) (at0 rb) L.length rc, .app 3 1 (iC P) (some ⟨kb, 0, none⟩) l.length l.length, .app 73 5 (grC m) oa m.length oc, famE (rowsG m)]) (fun ⟨j, _, _, _⟩ => L.length - j) [.app 73 5 [] none 0 0, .dead] rfl (fun _ => rfl) (fun _ => rfl) (fun _ _ => ⟨trivial, trivial, trivial, trivial, trivial, trivial⟩) ?_ ?_
    · refine ⟨⟨0, none, 0, []⟩, ⟨Nat.zero_le _, fun _ => rfl, rfl, (fun p h => by cases h), (fun p h => by cases h), Nat.le_refl _⟩, ?_, _, (famNew 4 rfl).s, wkE_refl _, wkE_refl _, wkE_refl _, wkE_refl _, wkE_refl _, trivial⟩
      (repeat' (first | exact trivial | refine And.intro (by with_reducible rfl) ?_ | (with_reducible exact wkC_refl _) | (with_reducible exact wkCs_refl _) | refine And.intro ?_ ?_))
      all_goals rfl
    rintro ⟨j, oa, oc, m⟩ ⟨hj, hoa, hmc, hmo, hmw, hoc⟩
    have hml : m.length = j := by
      have := congrArg List.length hmc
      simp only [List.length_map, List.length_take] at this
      omega
    (first | refine wX ?_ | exact wZ)
    refine brd_dec (fun h1 => ?_) (fun h1 => ?_)
    · obtain ⟨x, hx⟩ : ∃ x, L[j]? = some x := ⟨_, List.getElem?_eq_getElem (by omega)⟩
      have hxL := List.mem_of_getElem? hx
      have hxi := hLg x hxL
      have hra2 := hrs hxL
      (first | refine wX ?_ | exact wZ)
      refine Nd.mk ⟨hra2, by omega, by omega⟩ ?_
      (first | refine wX ?_ | exact wZ)
      refine LdN.one (.int .i64 x) rfl (fun w hw => hw.2.1) (by rw [Int.toNat_natCast]; show (iC L)[j * 1]? = _; rw [Nat.mul_one]; exact iC_get hx) ?_
      obtain ⟨k, rfl⟩ : ∃ k : Nat, x = (k : Int) := ⟨x.toNat, by have := hxi.1; omega⟩
      have hkl : k < l.length := by have := hxi.2; rw [hgl] at this; omega
      obtain ⟨p, hp⟩ : ∃ p, l[k]? = some p := ⟨_, List.getElem?_eq_getElem hkl⟩
      have hat : at_ (l.map (·.c)) (k : Int) = p.c := at_map hp
      have hpm := List.mem_of_getElem? hp
      have hpo := hok p hpm
      obtain ⟨hnl, hil⟩ := hsm p hpm
      have hsa : a.isSome = true := by
        cases a with
        | none => rw [ha rfl] at hp; cases hp
        | some b => rfl
      (first | refine wX ?_ | exact wZ)
      refine Nd.mk ⟨hsa, by omega, by omega⟩ ?_
      (first | refine wX ?_ | exact wZ)
      refine LdN.agg (cellC p) rfl (fun w hw => hw.1.1) rfl (fun q hq => by rw [Int.toNat_natCast]; exact grC_get l k q hq hp) ?_
      (first | refine wX ?_ | exact wZ)
      refine factG (fun _ => rfl) (own_o p hpo hnl hil) ?_ ?_
      · exact fun w hw => hw.1.2 p hpm
      rintro ⟨nb, nc2, ib, ic2⟩ ⟨hnc, hic⟩
      (first | refine wX ?_ | exact wZ)
      refine LoopN.intro Nat (fun t => t ≤ p.c.items.length)
        (fun t => mkS Tryz.f61.ntmps 0 [(0, .c (.v (.slice a l.length ca))), (5, .c (.v (.slice (at0 rb) L.length rc))), (6, .c (.v (.slice (some ⟨kb, 0, none⟩) l.length l.length))), (8, .c (.v (.slice oa m.length oc))), (9, .c (.v (.int .i64 (j : Int)))), (10, .c (.lp 9 0)), (11, .c (.v (.int .i64 (t : Int))))])
        (fun t => [.fact (GrF a l), .app 3 1 (iC L) (at0 rb) L.length rc, .app 3 1 (iC P) (some ⟨kb, 0, none⟩) l.length l.length, .app 73 5 (grC m) oa m.length oc, famE (rowsG m), .dead, .dead, .app 9 1 (strC p.c.names) (some ⟨nb, 0, none⟩) p.c.names.length nc2, .app 3 1 (iC (mixI (place L) t p.c.items)) (some ⟨ib, 0, none⟩) p.c.items.length ic2, .blk 73 (vs (cellC ⟨p.c, some ⟨nb, 0, none⟩, nc2, some ⟨ib, 0, none⟩, ic2⟩))]) (fun t => p.c.items.length - t) [] rfl (fun _ => rfl) (fun _ => rfl) (fun _ _ => okHB_eq rfl) ?_ ?_
      · refine ⟨0, Nat.zero_le _, ?_, wkE_refl _, wkE_refl _, wkE_refl _, wkE_refl _, wkE_refl _, trivial, trivial, wkE_refl _, ?_, wkE_refl _, trivial⟩
        · (repeat' (first | exact trivial | refine And.intro (by with_reducible rfl) ?_ | (with_reducible exact wkC_refl _) | (with_reducible exact wkCs_refl _) | refine And.intro ?_ ?_))
          all_goals rfl
        · rw [mixI_zero]; exact wkE_refl _
      intro t ht
      (first | refine wX ?_ | exact wZ)
      refine brd_dec (fun h3 => ?_) (fun h3 => ?_)
      · have h3 : (t : Int) < (p.c.items.length : Int) := h3
        obtain ⟨y, hy⟩ : ∃ y, p.c.items[t]? = some y := ⟨_, List.getElem?_eq_getElem (by omega)⟩
        have hyL : y ∈ L := hLc (k : Int) hxL y (by unfold outs; rw [hat]; exact List.mem_of_getElem? hy)
        have hyi := hLg y hyL
        have hy2 : y < (l.length : Int) := by have := hyi.2; rw [hgl] at this; exact this
        have hy1 := hyi.1
        have hpy := hP y hyL
        have hms : mixI (place L) (t + 1) p.c.items = (mixI (place L) t p.c.items).set t (place L y) := by
          unfold mixI
          rw [← mix_set (f := place L) hy]
        have hset : (iC (mixI (place L) t p.c.items)).set t (.int .i64 (place L y)) = iC (mixI (place L) (t + 1) p.c.items) := by
          rw [hms]
          unfold iC
          rw [List.map_set]
        have hq1 : t + 1 ≤ p.c.items.length * 1 := by omega
        have hq2 : t < (iC (mixI (place L) t p.c.items)).length := by unfold iC; rw [List.length_map, mixI_len]; omega
        (first | refine wX ?_ | exact wZ)
        refine DrawN.plan [0, 2, 3, 4, 6] [(1, 1), (5, 1), (7, 1), (8, 1), (9, 1), (10, 1), (11, 1)] [(12, 0)] (by decide +kernel) ?_
        (first | refine wX ?_ | exact wZ)
        refine Nd.mk ⟨rfl, by omega, h3⟩ ?_
        (first | refine wX ?_ | exact wZ)
        refine LdN.one (.int .i64 y) rfl (fun w hw => hw.2.2.2.2.2.2.1) (by rw [Int.toNat_natCast]; show (iC (mixI (place L) t p.c.items))[t * 1]? = _; rw [Nat.mul_one]; exact iC_get (by unfold mixI; rw [mix_get (by omega)]; exact hy)) ?_
        (first | refine wX ?_ | exact wZ)
        refine Nd.mk ⟨rfl, by omega, by omega⟩ ?_
        (first | refine wX ?_ | exact wZ)
        refine LdN.one (.int .i64 (place L y)) rfl (fun w hw => hw.2.2.1) (by show (iC P)[y.toNat * 1]? = _; rw [Nat.mul_one]; exact iC_get hpy) ?_
        (first | refine wX ?_ | exact wZ)
        refine Nd.mk ⟨rfl, by omega, h3⟩ ?_
        (first | refine wX ?_ | exact wZ)
        refine EffW.appTo (i := 8) (q := t) (ys := [.int .i64 (place L y)]) (iC (mixI (place L) (t + 1) p.c.items)) 1 rfl ?_ rfl rfl rfl rfl rfl hq1 (by rw [put_set _ hq2]; exact hset) rfl ?_
        · rw [Int.toNat_natCast]
          show AV.c (CV.v (Value.pointer (some (((⟨ib, 0, none⟩ : Addr)).add (t * 1))))) = _
          rw [Nat.mul_one]
          exact congrArg (fun x => AV.c (CV.v (Value.pointer (some x)))) (add_lit0 ib t)
        (first | refine wX ?_ | exact wZ)
        refine ⟨t + 1, by omega, by omega, ?_, wkE_refl _, wkE_refl _, wkE_refl _, wkE_refl _, wkE_refl _, trivial, trivial, wkE_refl _, wkE_refl _, wkE_refl _, trivial⟩
        (repeat' (first | exact trivial | refine And.intro (by with_reducible rfl) ?_ | (with_reducible exact wkC_refl _) | (with_reducible exact wkCs_refl _) | refine And.intro ?_ ?_))
        all_goals first | rfl | exact av_int (by rw [wrap_i64 (by omega)]; omega)
      · have h3 : ¬ (t : Int) < (p.c.items.length : Int) := h3
        obtain rfl : t = p.c.items.length := by omega
        rw [mixI_all]
        (first | refine wX ?_ | exact wZ)
        refine Nd.mk ⟨Nat.le_refl 1, rfl, rfl⟩ ?_
        (conv => whnf)
        have hnr : reNum (place L) p.c = { p.c with items := p.c.items.map (place L) } := rfl
        obtain ⟨q, hq⟩ : ∃ q : CellP, q = ⟨reNum (place L) p.c, some ⟨nb, 0, none⟩, nc2, some ⟨ib, 0, none⟩, ic2⟩ := ⟨_, rfl⟩
        have hcc : cellC ⟨p.c, some ⟨nb, 0, none⟩, nc2, some ⟨ib, 0, none⟩, ic2⟩ = cellC q := by
          rw [hq]
          unfold cellC reNum
          simp only [List.length_map]
        refine AppN.grow 3 (grC m) (cellC ⟨p.c, some ⟨nb, 0, none⟩, nc2, some ⟨ib, 0, none⟩, ic2⟩) rfl rfl ⟨Nat.le_refl 1, ⟨by show (m.length + 1) * 80 ≤ _; omega, by omega⟩, by decide⟩ fun ob2 oc2 hoc2 _ => ?_
        (first | refine wX ?_ | exact wZ)
        have hm2 : m.length + 1 = (m ++ [q]).length := by simp
        have hg2 := grC_snoc m q
        have hrw := rowsG_snoc m q
        rw [show rowsP q = [⟨9, 1, p.c.names.length, strC p.c.names, nb, nc2⟩] ++ [⟨3, 1, p.c.items.length, iC (p.c.items.map (place L)), ib, ic2⟩] by rw [hq]; unfold rowsP reNum; simp only [List.length_map], ← List.append_assoc] at hrw
        rw [hcc, ← hg2, hm2]
        refine ⟨⟨j + 1, some ⟨ob2, 0, none⟩, oc2, m ++ [q]⟩, ⟨by omega, (fun h => by cases h), ?_, ?_, ?_, by omega⟩, by show L.length - (j + 1) < L.length - j; omega, ?_, _, ((famPut 4 7 rfl rfl rfl (List.perm_append_singleton _ _).symm).trans (famPut 4 8 rfl rfl rfl (List.perm_append_singleton _ _).symm)).s, wkE_refl _, wkE_refl _, wkE_refl _, wkE_refl _, ?_, trivial⟩
        · rw [List.take_add_one, hx, List.map_append, hmc, List.map_append]
          show _ ++ [q.c] = _ ++ [reNum (place L) (at_ (l.map (·.c)) (k : Int))]
          rw [hat, hq]
        · intro r hr
          rcases List.mem_append.1 hr with hr | hr
          · exact hmo r hr
          · rw [List.mem_singleton.1 hr, hq]
            exact ⟨(fun h => by cases h), (fun h => by cases h), hpo.nl, by show (reNum (place L) p.c).items.length ≤ _; rw [hnr]; simp only [List.length_map]; omega, hpo.nw, hpo.tl, hnc, by show (reNum (place L) p.c).items.length ≤ ic2; rw [hnr]; simp only [List.length_map]; exact hic⟩
        · intro r hr
          rcases List.mem_append.1 hr with hr | hr
          · exact hmw r hr
          · rw [List.mem_singleton.1 hr, hq]
            exact ⟨fun ad h => by cases h; rfl, fun ad h => by cases h; rfl⟩
        · (repeat' (first | exact trivial | refine And.intro (by with_reducible rfl) ?_ | (with_reducible exact wkC_refl _) | (with_reducible exact wkCs_refl _) | refine And.intro ?_ ?_))
          all_goals first | rfl | exact av_int (by rw [wrap_i64 (by omega)]; omega)
        · rw [hrw]; exact wkE_refl _
    · obtain rfl : j = L.length := by omega
      rw [List.take_length] at hmc
      (first | refine wX ?_ | exact wZ)
      exact ⟨⟨0, oa, oc, m⟩, ⟨hoa, hmc, hmo, hmw, hoc⟩, rfl, trivial, trivial, trivial, wkE_refl _, wkE_refl _, trivial⟩
end Go.Proofs.YtahjbnfbilkbcaaGreatDoor

/-
  Contract: Copy (document), with memory of the caller's own.
-/
namespace Go.Proofs.YtahjbnfbilkbcaaGreatDoor
open Go.AX Go.RowKit Go.Core
set_option maxRecDepth 20000

end Go.Proofs.YtahjbnfbilkbcaaGreatDoor

/-
  Contracts: Own, Join (document), with memory of the caller's own.
-/
namespace Go.Proofs.YtahjbnfbilkbcaaGreatDoor
open Go.AX Go.RowKit Go.Core
set_option maxRecDepth 20000

set_option maxHeartbeats 4000000 in
theorem Own_o (a : Option Addr) (ca : Nat) (l : List CellP) (ha : a = none → l = []) (hs : Small l) (hok : ∀ p ∈ l, CellOk p) : SpecH Tryz.prog 78 (pvs [.slice a l.length ca]) [.fact (GrF a l)] (RetG (MInv (l.map (·.c))) (fun st => .slice st.oa st.m.length st.oc) (fun st => .dead :: ownN 73 st)) := by
  obtain ⟨hl, hsm⟩ := hs
  refine ownC hm Tryz.func78 (by kernel_rfl) rfl rfl (fun _ _ => okHB_eq rfl) (fun _ _ => by show 1 ≤ 3; decide) ?_
  (first | refine wX ?_ | exact wZ)
  refine LoopN.introS DSt (fun ⟨i, oa, oc, m⟩ => i ≤ l.length ∧ (oa = none → m = []) ∧ m.map (·.c) = (l.take i).map (·.c) ∧ (∀ p ∈ m, CellOk p) ∧ (∀ p ∈ m, OwnP p) ∧ m.length ≤ oc) (fun ⟨i, oa, oc, m⟩ => mkS Tryz.f78.ntmps 0 [(0, .c (.v (.slice a l.length ca))), (3, .c (.v (.slice oa m.length oc))), (4, .c (.v (.int .i64 (i : Int))))]) (fun ⟨i, oa, oc, m⟩ => [.fact (GrF a l), .app 73 5 (grC m) oa m.length oc, famE (rowsG m)]) (fun ⟨i, _, _, _⟩ => l.length - i) [.app 73 5 [] none 0 0, .dead] rfl (fun _ => rfl) (fun _ => rfl) (fun _ _ => ⟨trivial, trivial, trivial, trivial⟩) ?_ ?_
  · refine ⟨⟨0, none, 0, []⟩, ⟨Nat.zero_le _, fun _ => rfl, rfl, (fun p h => by cases h), (fun p h => by cases h), Nat.le_refl _⟩, ?_, _, (famNew 2 rfl).s, wkE_refl _, wkE_refl _, wkE_refl _, trivial⟩
    (repeat' (first | exact trivial | refine And.intro (by with_reducible rfl) ?_ | (with_reducible exact wkC_refl _) | (with_reducible exact wkCs_refl _) | refine And.intro ?_ ?_))
    all_goals rfl
  rintro ⟨i, oa, oc, m⟩ ⟨hi, hoa, hmc, hmo, hmw, hoc⟩
  have hml : m.length = i := by
    have := congrArg List.length hmc
    simp only [List.length_map, List.length_take] at this
    omega
  (first | refine wX ?_ | exact wZ)
  refine brd_dec (fun h1 => ?_) (fun h1 => ?_)
  · obtain ⟨p, hp⟩ : ∃ p, l[i]? = some p := ⟨_, List.getElem?_eq_getElem (by omega)⟩
    have hpm := List.mem_of_getElem? hp
    have hpo := hok p hpm
    obtain ⟨hnl, hil⟩ := hsm p hpm
    have hsa : a.isSome = true := by
      cases a with
      | none => rw [ha rfl] at hp; cases hp
      | some b => rfl
    (first | refine wX ?_ | exact wZ)
    refine Nd.mk ⟨hsa, by omega, by omega⟩ ?_
    (first | refine wX ?_ | exact wZ)
    refine LdN.agg (cellC p) rfl (fun w hw => hw.1.1) rfl (fun k hk => by rw [Int.toNat_natCast]; exact grC_get l i k hk hp) ?_
    (first | refine wX ?_ | exact wZ)
    refine factG (fun _ => rfl) (own_o p hpo hnl hil) ?_ ?_
    · exact fun w hw => hw.1.2 p hpm
    rintro ⟨nb, nc2, ib, ic2⟩ ⟨hnc, hic⟩
    (first | refine wX ?_ | exact wZ)
    refine Nd.mk ⟨Nat.le_refl 1, rfl, rfl⟩ ?_
    (conv => whnf)
    obtain ⟨q, hq⟩ : ∃ q : CellP, q = ⟨p.c, some ⟨nb, 0, none⟩, nc2, some ⟨ib, 0, none⟩, ic2⟩ := ⟨_, rfl⟩
    refine AppN.grow 1 (grC m) (cellC ⟨p.c, some ⟨nb, 0, none⟩, nc2, some ⟨ib, 0, none⟩, ic2⟩) rfl rfl ⟨Nat.le_refl 1, ⟨by show (m.length + 1) * 80 ≤ _; omega, by omega⟩, by decide⟩ fun ob2 oc2 hoc2 _ => ?_
    (first | refine wX ?_ | exact wZ)
    have hm2 : m.length + 1 = (m ++ [q]).length := by simp
    have hg2 := grC_snoc m q
    have hrw := rowsG_snoc m q
    rw [show rowsP q = [⟨9, 1, p.c.names.length, strC p.c.names, nb, nc2⟩] ++ [⟨3, 1, p.c.items.length, iC p.c.items, ib, ic2⟩] by rw [hq]; rfl, ← List.append_assoc] at hrw
    rw [← hq, ← hg2, hm2]
    refine ⟨⟨i + 1, some ⟨ob2, 0, none⟩, oc2, m ++ [q]⟩, ⟨by omega, (fun h => by cases h), ?_, ?_, ?_, by omega⟩, by show l.length - (i + 1) < l.length - i; omega, ?_, _, ((famPut 2 5 rfl rfl rfl (List.perm_append_singleton _ _).symm).trans (famPut 2 6 rfl rfl rfl (List.perm_append_singleton _ _).symm)).s, wkE_refl _, wkE_refl _, ?_, trivial⟩
    · rw [List.take_add_one, hp, List.map_append, hmc, List.map_append, hq]
      rfl
    · intro r hr
      rcases List.mem_append.1 hr with hr | hr
      · exact hmo r hr
      · rw [List.mem_singleton.1 hr, hq]
        exact ⟨(fun h => by cases h), (fun h => by cases h), hpo.nl, hpo.il, hpo.nw, hpo.tl, hnc, hic⟩
    · intro r hr
      rcases List.mem_append.1 hr with hr | hr
      · exact hmw r hr
      · rw [List.mem_singleton.1 hr, hq]
        exact ⟨fun ad h => by cases h; rfl, fun ad h => by cases h; rfl⟩
    · (repeat' (first | exact trivial | refine And.intro (by with_reducible rfl) ?_ | (with_reducible exact wkC_refl _) | (with_reducible exact wkCs_refl _) | refine And.intro ?_ ?_))
      all_goals first | rfl | exact av_int (by rw [wrap_i64 (by omega)]; omega)
    · rw [hrw]; exact wkE_refl _
  · obtain rfl : i = l.length := by omega
    rw [List.take_length] at hmc
    (first | refine wX ?_ | exact wZ)
    exact ⟨⟨0, oa, oc, m⟩, ⟨hoa, hmc, hmo, hmw, hoc⟩, rfl, trivial, wkE_refl _, wkE_refl _, trivial⟩
set_option maxHeartbeats 8000000 in
theorem RJoin_o {a b : Option Addr} (ca cb : Nat) {l m : List CellP} (ha : a = none → l = []) (hb : b = none → m = []) (hs : Small l) (ht : Small m) (hok : ∀ p ∈ l, CellOk p) (hom : ∀ p ∈ m, CellOk p) (hv : ValidP (l.map (·.c))) (hw : ValidP (m.map (·.c))) (h500 : l.length + m.length ≤ 500) :
    SpecH Tryz.prog 42 (pvs [.slice a l.length ca, .slice b m.length cb]) [.fact (fun w => GrF a l w ∧ GrF b m w)] (RetG (MInv (joinS (l.map (·.c)) (m.map (·.c)))) (fun st => .tuple #[.slice st.oa st.m.length st.oc, errI true]) (fun st => .dead :: ownN 73 st)) := by
  have hl := hs.1
  have hml := ht.1
  refine ownC hm Tryz.func42 (by kernel_rfl) rfl rfl (fun _ _ => okHB_eq rfl) (fun _ _ => by show 1 ≤ 3; decide) ?_
  (first | refine wX ?_ | exact wZ)
  obtain ⟨t, ht1, ht2⟩ := Valid_c a ca l ha (by omega) hok [.fact (fun w => GrF a l w ∧ GrF b m w)] (fun w hw => hw.1.1)
  obtain rfl : t = true := ht1.2 hv
  refine call1 ht2 ?_
  (first | refine wX ?_ | exact wZ)
  obtain ⟨t, ht3, ht4⟩ := Valid_c b cb m hb (by omega) hom [.fact (fun w => GrF a l w ∧ GrF b m w)] (fun w hw => hw.1.2)
  obtain rfl : t = true := ht3.2 hw
  refine call1 ht4 ?_
  (first | refine wX ?_ | exact wZ)
  refine brd_dec (fun h => absurd h (by rw [wrap_i64 (by omega)]; omega)) (fun _ => ?_)
  have hgl : (l.map (·.c)).length = l.length := by simp
  have hin := valid_in hw
  (first | refine wX ?_ | exact wZ)
  refine factG (fun _ => rfl) (Own_o a ca l ha hs hok) ?_ ?_
  · exact fun w hw => hw.1.1
  intro st hst
  (first | refine wX ?_ | exact wZ)
  refine LoopN.introS DSt (fun ⟨j, oa, oc, g⟩ => j ≤ m.length ∧ (oa = none → g = []) ∧ g.map (·.c) = l.map (·.c) ++ ((m.map (·.c)).take j).map (reNum fun i => i + ((l.map (·.c)).length : Int)) ∧ (∀ p ∈ g, CellOk p) ∧ (∀ p ∈ g, OwnP p) ∧ g.length ≤ oc)
    (fun ⟨j, oa, oc, g⟩ => mkS Tryz.f42.ntmps 0 [(0, .c (.v (.slice a l.length ca))), (1, .c (.v (.slice b m.length cb))), (6, .c (.v (.slice oa g.length oc))), (7, .c (.v (.int .i64 (j : Int))))])
    (fun ⟨_, oa, oc, g⟩ => [.fact (fun w => GrF a l w ∧ GrF b m w), .app 73 5 (grC g) oa g.length oc, famE (rowsG g)]) (fun ⟨j, _, _, _⟩ => m.length - j) [] rfl (fun _ => rfl) (fun _ => rfl) (fun _ _ => ⟨trivial, trivial, trivial, trivial⟩) ?_ ?_
  · refine ⟨⟨0, st.oa, st.oc, st.m⟩, ⟨Nat.zero_le _, hst.oa, by rw [hst.c]; simp, hst.ok, hst.own, hst.cap⟩, ?_, _, turn_refl _, wkE_refl _, wkE_refl _, wkE_refl _, trivial⟩
    (repeat' (first | exact trivial | refine And.intro (by with_reducible rfl) ?_ | (with_reducible exact wkC_refl _) | (with_reducible exact wkCs_refl _) | refine And.intro ?_ ?_))
    all_goals rfl
  rintro ⟨j, oa, oc, g⟩ ⟨hj, hoa, hgc, hgo, hgw, hoc⟩
  have hgl2 : g.length = l.length + j := by
    have := congrArg List.length hgc
    simp only [List.length_map, List.length_append, List.length_take] at this
    omega
  (first | refine wX ?_ | exact wZ)
  refine brd_dec (fun h1 => ?_) (fun h1 => ?_)
  · obtain ⟨p, hp⟩ : ∃ p, m[j]? = some p := ⟨_, List.getElem?_eq_getElem (by omega)⟩
    have hpm := List.mem_of_getElem? hp
    have hpo := hom p hpm
    obtain ⟨hnl, hil⟩ := ht.2 p hpm
    have hpc : (m.map (·.c))[j]? = some p.c := by rw [List.getElem?_map, hp]; rfl
    have hsb : b.isSome = true := by
      cases b with
      | none => rw [hb rfl] at hp; cases hp
      | some b => rfl
    (first | refine wX ?_ | exact wZ)
    refine Nd.mk ⟨hsb, by omega, by omega⟩ ?_
    (first | refine wX ?_ | exact wZ)
    refine LdN.agg (cellC p) rfl (fun w hw => hw.1.2.1) rfl (fun q hq => by rw [Int.toNat_natCast]; exact grC_get m j q hq hp) ?_
    (first | refine wX ?_ | exact wZ)
    refine factG (fun _ => rfl) (own_o p hpo hnl hil) ?_ ?_
    · exact fun w hw => hw.1.2.2 p hpm
    rintro ⟨nb, nc2, ib, ic2⟩ ⟨hnc, hic⟩
    (first | refine wX ?_ | exact wZ)
    obtain ⟨f, hf⟩ : ∃ f : Int → Int, f = fun i => i + ((l.map (·.c)).length : Int) := ⟨_, rfl⟩
    refine LoopN.intro Nat (fun t => t ≤ p.c.items.length)
      (fun t => mkS Tryz.f42.ntmps 0 [(0, .c (.v (.slice a l.length ca))), (1, .c (.v (.slice b m.length cb))), (6, .c (.v (.slice oa g.length oc))), (7, .c (.v (.int .i64 (j : Int)))), (8, .c (.lp 7 0)), (9, .c (.v (.int .i64 (t : Int))))])
      (fun t => [.fact (fun w => GrF a l w ∧ GrF b m w), .app 73 5 (grC g) oa g.length oc, famE (rowsG g), .dead, .dead, .app 9 1 (strC p.c.names) (some ⟨nb, 0, none⟩) p.c.names.length nc2, .app 3 1 (iC (mixI f t p.c.items)) (some ⟨ib, 0, none⟩) p.c.items.length ic2, .blk 73 (vs (cellC ⟨p.c, some ⟨nb, 0, none⟩, nc2, some ⟨ib, 0, none⟩, ic2⟩))]) (fun t => p.c.items.length - t) [] rfl (fun _ => rfl) (fun _ => rfl) (fun _ _ => okHB_eq rfl) ?_ ?_
    · refine ⟨0, Nat.zero_le _, ?_, wkE_refl _, wkE_refl _, wkE_refl _, trivial, trivial, wkE_refl _, ?_, wkE_refl _, trivial⟩
      · (repeat' (first | exact trivial | refine And.intro (by with_reducible rfl) ?_ | (with_reducible exact wkC_refl _) | (with_reducible exact wkCs_refl _) | refine And.intro ?_ ?_))
        all_goals rfl
      · rw [mixI_zero]; exact wkE_refl _
    intro t htl
    (first | refine wX ?_ | exact wZ)
    refine brd_dec (fun h3 => ?_) (fun h3 => ?_)
    · have h3 : (t : Int) < (p.c.items.length : Int) := h3
      obtain ⟨y, hy⟩ : ∃ y, p.c.items[t]? = some y := ⟨_, List.getElem?_eq_getElem (by omega)⟩
      have hyi := hin p.c (List.mem_map.2 ⟨p, hpm, rfl⟩) y (List.mem_of_getElem? hy)
      have hy1 : 0 ≤ y := hyi.1
      have hy2 : y < (m.length : Int) := by have := hyi.2; simpa using this
      have hfy : f y = y + (l.length : Int) := by rw [hf, hgl]
      have hset : (iC (mixI f t p.c.items)).set t (.int .i64 (f y)) = iC (mixI f (t + 1) p.c.items) := by
        unfold mixI iC
        rw [← List.map_set, mix_set (f := f) hy]
      have hq1 : t + 1 ≤ p.c.items.length * 1 := by omega
      have hq2 : t < (iC (mixI f t p.c.items)).length := by unfold iC; rw [List.length_map, mixI_len]; omega
      (first | refine wX ?_ | exact wZ)
      refine DrawN.plan [0, 2, 3, 5, 8] [(1, 1), (4, 1), (6, 1), (7, 1), (9, 1), (10, 1), (11, 1)] [(12, 0)] (by decide +kernel) ?_
      (first | refine wX ?_ | exact wZ)
      refine Nd.mk ⟨rfl, by omega, h3⟩ ?_
      (first | refine wX ?_ | exact wZ)
      refine LdN.one (.int .i64 y) rfl (fun w hw => hw.2.2.2.2.1) (by rw [Int.toNat_natCast]; show (iC (mixI f t p.c.items))[t * 1]? = _; rw [Nat.mul_one]; exact iC_get (by unfold mixI; rw [mix_get (by omega)]; exact hy)) ?_
      (first | refine wX ?_ | exact wZ)
      rw [wrap_i64 (x := y + (l.length : Int)) (by omega), ← hfy]
      refine Nd.mk ⟨rfl, by omega, h3⟩ ?_
      (first | refine wX ?_ | exact wZ)
      refine EffW.appTo (i := 6) (q := t) (ys := [.int .i64 (f y)]) (iC (mixI f (t + 1) p.c.items)) 1 rfl ?_ rfl rfl rfl rfl rfl hq1 (by rw [put_set _ hq2]; exact hset) rfl ?_
      · rw [Int.toNat_natCast]
        show AV.c (CV.v (Value.pointer (some (((⟨ib, 0, none⟩ : Addr)).add (t * 1))))) = _
        rw [Nat.mul_one]
        exact congrArg (fun x => AV.c (CV.v (Value.pointer (some x)))) (add_lit0 ib t)
      (first | refine wX ?_ | exact wZ)
      refine ⟨t + 1, by omega, by omega, ?_, wkE_refl _, wkE_refl _, wkE_refl _, trivial, trivial, wkE_refl _, wkE_refl _, wkE_refl _, trivial⟩
      (repeat' (first | exact trivial | refine And.intro (by with_reducible rfl) ?_ | (with_reducible exact wkC_refl _) | (with_reducible exact wkCs_refl _) | refine And.intro ?_ ?_))
      all_goals first | rfl | exact av_int (by rw [wrap_i64 (by omega)]; omega)
    · have h3 : ¬ (t : Int) < (p.c.items.length : Int) := h3
      obtain rfl : t = p.c.items.length := by omega
      rw [mixI_all]
      (first | refine wX ?_ | exact wZ)
      refine Nd.mk ⟨Nat.le_refl 1, rfl, rfl⟩ ?_
      (conv => whnf)
      have hnr : reNum f p.c = { p.c with items := p.c.items.map f } := rfl
      obtain ⟨q, hq⟩ : ∃ q : CellP, q = ⟨reNum f p.c, some ⟨nb, 0, none⟩, nc2, some ⟨ib, 0, none⟩, ic2⟩ := ⟨_, rfl⟩
      have hcc : cellC ⟨p.c, some ⟨nb, 0, none⟩, nc2, some ⟨ib, 0, none⟩, ic2⟩ = cellC q := by
        rw [hq]
        unfold cellC reNum
        simp only [List.length_map]
      refine AppN.grow 1 (grC g) (cellC ⟨p.c, some ⟨nb, 0, none⟩, nc2, some ⟨ib, 0, none⟩, ic2⟩) rfl rfl ⟨Nat.le_refl 1, ⟨by show (g.length + 1) * 80 ≤ _; omega, by omega⟩, by decide⟩ fun ob2 oc2 hoc2 _ => ?_
      (first | refine wX ?_ | exact wZ)
      have hm2 : g.length + 1 = (g ++ [q]).length := by simp
      have hg2 := grC_snoc g q
      have hrw := rowsG_snoc g q
      rw [show rowsP q = [⟨9, 1, p.c.names.length, strC p.c.names, nb, nc2⟩] ++ [⟨3, 1, p.c.items.length, iC (p.c.items.map f), ib, ic2⟩] by rw [hq]; unfold rowsP reNum; simp only [List.length_map], ← List.append_assoc] at hrw
      rw [hcc, ← hg2, hm2]
      refine ⟨⟨j + 1, some ⟨ob2, 0, none⟩, oc2, g ++ [q]⟩, ⟨by omega, (fun h => by cases h), ?_, ?_, ?_, by omega⟩, by show m.length - (j + 1) < m.length - j; omega, ?_, _, ((famPut 2 5 rfl rfl rfl (List.perm_append_singleton _ _).symm).trans (famPut 2 6 rfl rfl rfl (List.perm_append_singleton _ _).symm)).s, wkE_refl _, wkE_refl _, ?_, trivial⟩
      · rw [List.take_add_one, hpc, List.map_append, hgc, List.map_append, List.append_assoc, hq, hf]
        rfl
      · intro r hr
        rcases List.mem_append.1 hr with hr | hr
        · exact hgo r hr
        · rw [List.mem_singleton.1 hr, hq]
          exact ⟨(fun h => by cases h), (fun h => by cases h), hpo.nl, by show (reNum f p.c).items.length ≤ _; rw [hnr]; simp only [List.length_map]; omega, hpo.nw, hpo.tl, hnc, by show (reNum f p.c).items.length ≤ ic2; rw [hnr]; simp only [List.length_map]; exact hic⟩
      · intro r hr
        rcases List.mem_append.1 hr with hr | hr
        · exact hgw r hr
        · rw [List.mem_singleton.1 hr, hq]
          exact ⟨fun ad h => by cases h; rfl, fun ad h => by cases h; rfl⟩
      · (repeat' (first | exact trivial | refine And.intro (by with_reducible rfl) ?_ | (with_reducible exact wkC_refl _) | (with_reducible exact wkCs_refl _) | refine And.intro ?_ ?_))
        all_goals first | rfl | exact av_int (by rw [wrap_i64 (by omega)]; omega)
      · rw [hrw]; exact wkE_refl _
  · obtain rfl : j = m.length := by omega
    rw [List.take_of_length_le (by simp)] at hgc
    (first | refine wX ?_ | exact wZ)
    exact ⟨⟨0, oa, oc, g⟩, ⟨hoa, hgc, hgo, hgw, hoc⟩, rfl, trivial, wkE_refl _, wkE_refl _, trivial⟩
/-- What Join tells, and the joined graph. -/
def joinV (t1 t2 : Bool) (n : Nat) : Int := if t1 && t2 then (if n ≤ 500 then 0 else 9) else 1
def joinL (t1 t2 : Bool) (n : Nat) (g h : List Cell) : List Cell := if t1 && t2 && decide (n ≤ 500) then joinS g h else []
set_option maxHeartbeats 4000000 in
theorem RJoin_c {a b : Option Addr} (ca cb : Nat) {l m : List CellP} (ha : a = none → l = []) (hb : b = none → m = []) (hs : Small l) (ht : Small m) (hok : ∀ p ∈ l, CellOk p) (hom : ∀ p ∈ m, CellOk p) (t1 t2 : Bool) (h1 : t1 = true ↔ ValidP (l.map (·.c))) (h2 : t2 = true ↔ ValidP (m.map (·.c))) :
    SpecH Tryz.prog 42 (pvs [.slice a l.length ca, .slice b m.length cb]) [.fact (fun w => GrF a l w ∧ GrF b m w)] (RetG (MInv (joinL t1 t2 (l.length + m.length) (l.map (·.c)) (m.map (·.c)))) (fun st => .tuple #[.slice st.oa st.m.length st.oc, .int .i64 (joinV t1 t2 (l.length + m.length))]) (fun st => .dead :: ownN 73 st)) := by
  have hl := hs.1
  have hml := ht.1
  cases t1 with
  | false =>
    -- false: whether the first one is valid
    refine SpecH.pad [.app 73 5 [] none 0 0, .dead] rfl ?_
    refine SpecH.turnS (famNew 2 rfl).s ?_
    refine ownC hm Tryz.func42 (by kernel_rfl) rfl rfl (fun _ _ => okHB_eq rfl) (fun _ _ => by show 3 ≤ 3; decide) ?_
    (first | refine wX ?_ | exact wZ)
    obtain ⟨t, ht1, ht2⟩ := Valid_c a ca l ha (by omega) hok [.fact (fun w => GrF a l w ∧ GrF b m w), .app 73 5 [] none 0 0, famE []] (fun w hw => hw.1.1)
    obtain rfl : t = false := by rw [Bool.eq_iff_iff, ht1, ← h1]
    refine call1 ht2 ?_
    (first | refine wX ?_ | exact wZ)
    exact ⟨⟨0, none, 0, []⟩, ⟨fun _ => rfl, rfl, (fun p h => by cases h), (fun p h => by cases h), Nat.le_refl _⟩, rfl, trivial, wkE_refl _, wkE_refl _, trivial⟩
  | true =>
  cases t2 with
  | false =>
    -- true: whether the first one is valid
    refine SpecH.pad [.app 73 5 [] none 0 0, .dead] rfl ?_
    refine SpecH.turnS (famNew 2 rfl).s ?_
    refine ownC hm Tryz.func42 (by kernel_rfl) rfl rfl (fun _ _ => okHB_eq rfl) (fun _ _ => by show 3 ≤ 3; decide) ?_
    (first | refine wX ?_ | exact wZ)
    obtain ⟨t, ht1, ht2⟩ := Valid_c a ca l ha (by omega) hok [.fact (fun w => GrF a l w ∧ GrF b m w), .app 73 5 [] none 0 0, famE []] (fun w hw => hw.1.1)
    obtain rfl : t = true := by rw [Bool.eq_iff_iff, ht1, ← h1]
    refine call1 ht2 ?_
    (first | refine wX ?_ | exact wZ)
    obtain ⟨t, ht3, ht4⟩ := Valid_c b cb m hb (by omega) hom [.fact (fun w => GrF a l w ∧ GrF b m w), .app 73 5 [] none 0 0, famE []] (fun w hw => hw.1.2)
    obtain rfl : t = false := by rw [Bool.eq_iff_iff, ht3, ← h2]
    refine call1 ht4 ?_
    (first | refine wX ?_ | exact wZ)
    exact ⟨⟨0, none, 0, []⟩, ⟨fun _ => rfl, rfl, (fun p h => by cases h), (fun p h => by cases h), Nat.le_refl _⟩, rfl, trivial, wkE_refl _, wkE_refl _, trivial⟩
  | true =>
  by_cases h5 : l.length + m.length ≤ 500
  · have hj := RJoin_o ca cb ha hb hs ht hok hom (h1.1 rfl) (h2.1 rfl) h5
    have e1 : joinL true true (l.length + m.length) (l.map (·.c)) (m.map (·.c)) = joinS (l.map (·.c)) (m.map (·.c)) := by
      unfold joinL
      rw [decide_eq_true h5]
      rfl
    have e2 : joinV true true (l.length + m.length) = 0 := by
      unfold joinV
      rw [if_pos h5]
      rfl
    rw [e1, e2]
    exact hj
  · have e1 : joinL true true (l.length + m.length) (l.map (·.c)) (m.map (·.c)) = [] := by
      unfold joinL
      rw [decide_eq_false h5]
      rfl
    have e2 : joinV true true (l.length + m.length) = 9 := by
      unfold joinV
      rw [if_neg h5]
      rfl
    rw [e1, e2]
    -- true: whether the first one is valid
    refine SpecH.pad [.app 73 5 [] none 0 0, .dead] rfl ?_
    refine SpecH.turnS (famNew 2 rfl).s ?_
    refine ownC hm Tryz.func42 (by kernel_rfl) rfl rfl (fun _ _ => okHB_eq rfl) (fun _ _ => by show 3 ≤ 3; decide) ?_
    (first | refine wX ?_ | exact wZ)
    obtain ⟨t, ht1, ht2⟩ := Valid_c a ca l ha (by omega) hok [.fact (fun w => GrF a l w ∧ GrF b m w), .app 73 5 [] none 0 0, famE []] (fun w hw => hw.1.1)
    obtain rfl : t = true := by rw [Bool.eq_iff_iff, ht1, ← h1]
    refine call1 ht2 ?_
    (first | refine wX ?_ | exact wZ)
    obtain ⟨t, ht3, ht4⟩ := Valid_c b cb m hb (by omega) hom [.fact (fun w => GrF a l w ∧ GrF b m w), .app 73 5 [] none 0 0, famE []] (fun w hw => hw.1.2)
    obtain rfl : t = true := by rw [Bool.eq_iff_iff, ht3, ← h2]
    refine call1 ht4 ?_
    (first | refine wX ?_ | exact wZ)
    refine brd_dec (fun _ => ?_) (fun h => absurd h (by rw [wrap_i64 (by omega)]; omega))
    (first | refine wX ?_ | exact wZ)
    exact ⟨⟨0, none, 0, []⟩, ⟨fun _ => rfl, rfl, (fun p h => by cases h), (fun p h => by cases h), Nat.le_refl _⟩, rfl, trivial, wkE_refl _, wkE_refl _, trivial⟩
end Go.Proofs.YtahjbnfbilkbcaaGreatDoor

/-
  AX, fifty-seventh text: append(nil, make([]T, k)...) for any T; what is known of the new row is its room.
-/
namespace Go.AX
open Go.RowKit

theorem EffW.zerosNew {P : Program} {o : Oper} {s : List AV} {H : List Ent} {K : AV → List Ent → Prop} {T U e : TypeId} {x y : Operand} {args : Array Operand} {ts : Array TypeId} {kn : IntKind} {z : Int} {inf : TypeInfo} {z0 : Value} {sz : Nat} (i k : Nat)
    (ho : o.op = .call { callee := .builtin .append, args := args, argTypes := ts }) (ha : args.toList = [x, y]) (ht : ts.toList = [T, U])
    (hT : P.underlying T = some (.slice e)) (hU : P.underlying U = some (.int kn)) (hi : P.info? e = some inf) (hz0 : inf.zero = some z0) (hs0 : inf.size = sz) (hzs : z0.cells.size = sz) (h0 : 0 < sz) (hby : inf.bytes ≤ 1000)
    (hx : opv s x = .c (.v (.slice none 0 0))) (hy : opv s y = .c (.v (.int .i64 z))) (hz : z = k) (he : nthE H i = some (.app e sz [] none 0 0)) (room : 1 ≤ k ∧ k ≤ 1000000)
    (next : ∀ b cap' : Nat, k ≤ cap' → setEK H i (.app e sz [] (some ⟨b, 0, none⟩) 0 cap') fun H' => K (.c (.v (.slice (some ⟨b, 0, none⟩) k cap'))) H') : EffW P o s H K := by
  subst hz
  intro ρ S w ac hs hr
  rw [nthE_eq] at he
  have e1 : args = #[x, y] := by rw [← Array.toArray_toList (xs := args), ha]
  have e2 : ts = #[T, U] := by rw [← Array.toArray_toList (xs := ts), ht]
  subst e1; subst e2
  have hxr := opv_rel hr x
  have hyr := opv_rel hr y
  rw [hx] at hxr; rw [hy] at hyr
  have hx2 : ac.eval x = .slice none 0 0 := hxr
  have hy2 : ac.eval y = .int .i64 k := hyr
  have hexec : ∀ v' w', (Builtin.append_ #[T, U] o.type #[.slice none 0 0, .int .i64 k]).run P w = .ok v' w' → (execOp ac.eval o).run P w = .ok (.value v') w' := fun v' w' hrun => by
    unfold execOp
    simp only [ho, resolve, invoke, builtin, Sem.run_bind, Sem.run_pure, Result.andThen_ok, List.map_toArray, List.map_cons, List.map_nil, hx2, hy2, hrun]
  have hmul : k * inf.bytes ≤ 1000000 * 1000 := Nat.mul_le_mul room.2 hby
  have hge := grownCap_ge w (0 + k) 0 e
  have hgm := grownCap_le_maxLen w (0 + k) 0 e (by simp only [maxLen]; omega)
  have hrun := Lib.run_append_grow_zeros (P := P) w T U o.type e inf z0 .i64 kn hT hU hi hz0 none 0 0 [] (run_firstCells_none _ _ _ _ _) k (by omega) (by omega) (by omega) (by omega) (by omega) (growslice_fits (by omega) (by rw [Nat.zero_add]; omega))
  generalize grownCap w (0 + k) 0 e = c at hrun hge hgm
  rw [Nat.zero_add] at hrun hge
  obtain ⟨hilt, hk⟩ := setEK_spec (next w.heap.size c hge)
  have hS := hs.setNil (e' := .app e sz [] (some ⟨w.heap.size, 0, none⟩) 0 c) he (fun _ h => by cases h) (w' := w.drew.alloc (.cells (([] : List Value).toArray ++ Builtin.zeroCells z0.cells k ++ Builtin.zeroCells z0.cells (c - k)) e)) rfl rfl rfl rfl (fun b hb => (Option.some.inj hb).symm)
    (.inr ⟨_, rfl, _, (0, 0), ⟨heap_alloc_new w.drew _, .inl rfl⟩, by simp, Nat.zero_le _, hgm, by
      simp only [Array.size_append, size_zeroCells, hzs]
      show 0 + k * sz + (c - k) * sz = c * sz
      rw [Nat.zero_add, ← Nat.add_mul]
      congr 1
      omega, by simp⟩)
  exact ⟨_, _, hk, _, _, _, _, hexec _ _ hrun, .inl rfl, hS.1, hS.2, rfl⟩
end Go.AX

/-
  Contracts: slices.Grow of nothing, slices.Concat of two graphs (program).
-/
namespace Go.Proofs.YtahjbnfbilkbcaaGreatDoor
open Go.AX Go.RowKit Go.Core
set_option maxRecDepth 20000

set_option maxHeartbeats 4000000 in
theorem grow_o (n : Nat) (hn : n ≤ 4000) : SpecH Tryz.prog 108 (pvs [.slice none 0 0, .int .i64 (n : Int)]) [.app 42 5 [] none 0 0] (RetG (ι := Option Nat × Nat) (fun o => o.1 = none → n = 0) (fun o => .slice (at0 o.1) 0 o.2) (fun o => [.app 42 5 [] (at0 o.1) 0 o.2])) := by
  refine ownC hm Tryz.func108 (by kernel_rfl) rfl rfl (fun _ _ => okHB_eq rfl) (fun _ _ => by show 1 ≤ 1; decide) ?_
  (first | refine wX ?_ | exact wZ)
  have hw0 : IntKind.i64.wrap ((n : Int) - IntKind.i64.wrap (((0 : Nat) : Int) - ((0 : Nat) : Int))) = (n : Int) := by
    rw [wrap_i64 (x := ((0 : Nat) : Int) - ((0 : Nat) : Int)) (by omega), wrap_i64 (by omega)]
    omega
  refine brd_dec (fun h1 => ?_) (fun h1 => ?_)
  · rw [hw0] at h1
    (first | refine wX ?_ | exact wZ)
    refine ReadW.slc_hi rfl (by kernel_rfl) rfl rfl (by omega) ?_
    (first | refine wX ?_ | exact wZ)
    refine EffW.zerosNew (kn := .i64) (z0 := .agg #[.int .i64 0, .int .i64 0, .string ⟨#[]⟩, .slice none 0 0, .slice none 0 0]) (sz := 5) 0 n rfl rfl rfl (by kernel_rfl) (by kernel_rfl) rfl rfl rfl rfl (by decide) (by decide) rfl rfl hw0 rfl ⟨by omega, by omega⟩ fun gb gc hgc => ?_
    (first | refine wX ?_ | exact wZ)
    refine ReadW.slc_hi rfl (by kernel_rfl) rfl rfl (by omega) ?_
    (first | refine wX ?_ | exact wZ)
    exact ⟨(some gb, gc), (fun h => by cases h), rfl, wkE_refl _, trivial⟩
  · (first | refine wX ?_ | exact wZ)
    exact ⟨(none, 0), (fun _ => by rw [hw0] at h1; omega), rfl, wkE_refl _, trivial⟩
/-- The first graphs, one behind the other. -/
def catG (l m : List CellP) (i : Nat) : List CellP := match i with | 0 => [] | 1 => [] ++ l | _ => [] ++ l ++ m
theorem catG_le (l m : List CellP) (i : Nat) (hl : l.length ≤ 2000) (hm : m.length ≤ 2000) : (catG l m i).length ≤ 4000 := by
  unfold catG
  split <;> simp <;> omega
def twoS (a b : Option Addr) (n m ca cb : Nat) : List Value := [.slice a n ca, .slice b m cb]
set_option maxHeartbeats 4000000 in
theorem concat_o (xb : Nat) (a b : Option Addr) (ca cb : Nat) (l m : List CellP) (ha : a = none → l = []) (hb : b = none → m = []) (hl : l.length ≤ 2000) (hml : m.length ≤ 2000) : SpecH Tryz.prog 72 (pvs [.slice (some ⟨xb, 0, none⟩) 2 2]) [.fact (fun w => SlAt (some ⟨xb, 0, none⟩) 2 (twoS a b l.length m.length ca cb) w ∧ SlAt a (l.length * 5) (grC l) w ∧ SlAt b (m.length * 5) (grC m) w)]
    (RetG (ι := Option Nat × Nat) (fun o => (o.1 = none → l ++ m = []) ∧ (l ++ m).length ≤ o.2) (fun o => .slice (at0 o.1) (l ++ m).length o.2) (fun o => [.dead, .app 42 5 (grC (l ++ m)) (at0 o.1) (l ++ m).length o.2])) := by
  refine SpecH.pad [.app 42 5 [] none 0 0] rfl ?_
  refine ownC hm Tryz.func72 (by kernel_rfl) rfl rfl (fun _ _ => okHB_eq rfl) (fun _ _ => by show 2 ≤ 2; decide) ?_
  (first | refine wX ?_ | exact wZ)
  have hXY : ∀ (i : Nat), i < 2 → ∃ (s : Option Addr) (g : List CellP) (c : Nat), (twoS a b l.length m.length ca cb)[i]? = some (.slice s g.length c) ∧ (s = none → g = []) ∧ g.length ≤ 2000 ∧ catG l m (i + 1) = catG l m i ++ g ∧ ∀ w, (SlAt (some ⟨xb, 0, none⟩) 2 (twoS a b l.length m.length ca cb) w ∧ SlAt a (l.length * 5) (grC l) w ∧ SlAt b (m.length * 5) (grC m) w) → SlAt s (g.length * 5) (grC g) w := fun i hi => by
    have hi2 : i = 0 ∨ i = 1 := by omega
    rcases hi2 with rfl | rfl
    · exact ⟨a, l, ca, rfl, ha, hl, rfl, fun w hw => hw.2.1⟩
    · exact ⟨b, m, cb, rfl, hb, hml, rfl, fun w hw => hw.2.2⟩
  refine loopS Nat (fun i => i ≤ 2) (fun i => mkS Tryz.f72.ntmps 0 [(0, .c (.v (.slice (some ⟨xb, 0, none⟩) 2 2))), (2, .c (.v (.slice none 0 0))), (3, .c (.v (.int .i64 ((catG l m i).length : Int)))), (9, .c (.v (.slice (some ⟨xb, 0, none⟩) 2 2))), (10, .c (.v (.int .i64 ((2 : Nat) : Int)))), (11, .c (.v (.int .i64 (i : Int))))]) (fun i => 2 - i) rfl (fun _ => rfl) 0 (Nat.zero_le _) ?_ ?_
  · (repeat' (first | exact trivial | refine And.intro (by with_reducible rfl) ?_ | (with_reducible exact wkC_refl _) | (with_reducible exact wkCs_refl _) | refine And.intro ?_ ?_))
    all_goals rfl
  intro i hi
  have hcl : (catG l m i).length ≤ 4000 := catG_le l m i hl hml
  (first | refine wX ?_ | exact wZ)
  refine brd_dec (fun h1 => ?_) (fun h1 => ?_)
  · obtain ⟨s, g, c, h2, h3, h4, h5, h6⟩ := hXY i (by omega)
    have hcl2 : (catG l m (i + 1)).length = (catG l m i).length + g.length := by rw [h5, List.length_append]
    (first | refine wX ?_ | exact wZ)
    refine Nd.mk ⟨rfl, by omega, by omega⟩ ?_
    (first | refine wX ?_ | exact wZ)
    refine LdN.one (.slice s g.length c) rfl (fun w hw => hw.1.1) (by rw [Int.toNat_natCast]; show (twoS a b l.length m.length ca cb)[i * 1]? = _; rw [Nat.mul_one]; exact h2) ?_
    (first | refine wX ?_ | exact wZ)
    refine ⟨i + 1, by omega, by omega, ?_, by (repeat' (first | exact trivial | exact wkE_refl _ | refine And.intro ?_ ?_))⟩
    (repeat' (first | exact trivial | refine And.intro (by with_reducible rfl) ?_ | (with_reducible exact wkC_refl _) | (with_reducible exact wkCs_refl _) | refine And.intro ?_ ?_))
    all_goals first | rfl | exact av_int (by rw [wrap_i64 (by omega)]; omega) | exact av_int (by omega)
  · obtain rfl : i = 2 := by omega
    (first | refine wX ?_ | exact wZ)
    refine callG (grow_o (catG l m 2).length hcl) [1] rfl ⟨rfl, trivial⟩ rfl fun o ho => ?_
    obtain ⟨ob, oc⟩ := o
    have ho : ob = none → catG l m 2 = [] := fun h => List.eq_nil_of_length_eq_zero (ho h)
    (first | refine wX ?_ | exact wZ)
    refine LoopN.intro (Nat × Option Nat × Nat) (fun ⟨i, ob, oc⟩ => i ≤ 2 ∧ (ob = none → catG l m 2 = []) ∧ (catG l m i).length ≤ oc) (fun ⟨i, ob, oc⟩ => mkS Tryz.f72.ntmps 0 [(6, .c (.v (.slice (at0 ob) (catG l m i).length oc))), (25, .c (.v (.slice (some ⟨xb, 0, none⟩) 2 2))), (26, .c (.v (.int .i64 ((2 : Nat) : Int)))), (27, .c (.v (.int .i64 (i : Int))))])
      (fun ⟨i, ob, oc⟩ => [.fact (fun w => SlAt (some ⟨xb, 0, none⟩) 2 (twoS a b l.length m.length ca cb) w ∧ SlAt a (l.length * 5) (grC l) w ∧ SlAt b (m.length * 5) (grC m) w), .app 42 5 (grC (catG l m i)) (at0 ob) (catG l m i).length oc]) (fun ⟨i, _, _⟩ => 2 - i) [] rfl (fun ⟨_, _, _⟩ => rfl) (fun ⟨_, _, _⟩ => rfl) (fun ⟨_, _, _⟩ _ => okHB_eq rfl) ?_ ?_
    · refine ⟨(0, ob, oc), ⟨Nat.zero_le _, ho, Nat.zero_le _⟩, ?_, wkE_refl _, wkE_refl _, trivial⟩
      (repeat' (first | exact trivial | refine And.intro (by with_reducible rfl) ?_ | (with_reducible exact wkC_refl _) | (with_reducible exact wkCs_refl _) | refine And.intro ?_ ?_))
      all_goals rfl
    rintro ⟨i, ob, oc⟩ ⟨hi, ho, hoc⟩
    have hcl : (catG l m i).length ≤ 4000 := catG_le l m i hl hml
    (first | refine wX ?_ | exact wZ)
    refine brd_dec (fun h1 => ?_) (fun h1 => ?_)
    · obtain ⟨s, g, c, h2, h3, h4, h5, h6⟩ := hXY i (by omega)
      have hcl2 : (catG l m (i + 1)).length = (catG l m i).length + g.length := by rw [h5, List.length_append]
      (first | refine wX ?_ | exact wZ)
      refine Nd.mk ⟨rfl, by omega, by omega⟩ ?_
      (first | refine wX ?_ | exact wZ)
      refine LdN.one (.slice s g.length c) rfl (fun w hw => hw.1.1) (by rw [Int.toNat_natCast]; show (twoS a b l.length m.length ca cb)[i * 1]? = _; rw [Nat.mul_one]; exact h2) ?_
      (conv => whnf)
      have hgr : grC (catG l m i) ++ grC g = grC (catG l m (i + 1)) := by rw [h5]; unfold grC; rw [List.flatMap_append]
      cases ob with
      | none =>
        have h0 : [] ++ l ++ m = [] := ho rfl
        have hl0 : l = [] := by simp at h0; exact h0.1
        have hm0 : m = [] := by simp at h0; exact h0.2
        have hc0 : ∀ j, catG l m j = [] := fun j => by rw [hl0, hm0]; unfold catG; split <;> rfl
        have hg0 : g = [] := by rw [hc0, hc0] at h5; simpa using h5.symm
        have hci := hc0 i
        have hci1 := hc0 (i + 1)
        rw [hg0, hci]
        (first | refine wX ?_ | exact wZ)
        refine Nd.mk (Nat.zero_le _) ?_
        (first | refine wX ?_ | exact wZ)
        refine ⟨(i + 1, none, oc), ⟨by omega, fun _ => hc0 2, by rw [hci1]; exact Nat.zero_le _⟩, by show 2 - (i + 1) < 2 - i; omega, ?_, wkE_refl _, ?_, trivial⟩
        · (repeat' (first | exact trivial | refine And.intro (by with_reducible rfl) ?_ | (with_reducible exact wkC_refl _) | (with_reducible exact wkCs_refl _) | refine And.intro ?_ ?_))
          all_goals first | rfl | exact av_int (by rw [wrap_i64 (by omega)]; omega) | exact congrArg (fun n : Nat => AV.c (CV.v (Value.slice none n oc))) (by rw [hci1])
        · rw [hci1]; exact wkE_refl _
      | some ob =>
        refine app_any 1 (grC (catG l m i)) (grC g) rfl hoc (fun h => by cases s with | none => rw [h3 rfl] at h; cases h | some b => rfl) (grC_len g) (gr_one g) (fun w hw j v hv => (h6 w hw.1).cell hv) ⟨⟨by show ((catG l m i).length + g.length) * 80 ≤ _; omega, by omega⟩, by decide⟩ fun b2 c2 hc2 => ?_
        rw [hgr, ← hcl2]
        (first | refine wX ?_ | exact wZ)
        refine ⟨(i + 1, some b2, c2), ⟨by omega, (fun h => by cases h), by omega⟩, by show 2 - (i + 1) < 2 - i; omega, ?_, wkE_refl _, wkE_refl _, trivial⟩
        (repeat' (first | exact trivial | refine And.intro (by with_reducible rfl) ?_ | (with_reducible exact wkC_refl _) | (with_reducible exact wkCs_refl _) | refine And.intro ?_ ?_))
        all_goals first | rfl | exact av_int (by rw [wrap_i64 (by omega)]; omega)
    · obtain rfl : i = 2 := by omega
      (first | refine wX ?_ | exact wZ)
      exact ⟨(ob, oc), ⟨ho, hoc⟩, rfl, trivial, wkE_refl _, trivial⟩
end Go.Proofs.YtahjbnfbilkbcaaGreatDoor

/-
  Contract: Join (program), with memory of the caller's own.
-/
namespace Go.Proofs.YtahjbnfbilkbcaaGreatDoor
open Go.AX Go.RowKit Go.Core
set_option maxRecDepth 20000

/-- How a cell's items are changed. -/
def shF (n j : Nat) (i : Int) : Int := if n ≤ j then i + (n : Int) else i
theorem join_get {l m : List CellP} {j : Nat} {p : CellP} (h : (l ++ m)[j]? = some p) : (joinS (l.map (·.c)) (m.map (·.c)))[j]? = some (reNum (shF l.length j) p.c) := by
  unfold joinS
  by_cases hj : j < l.length
  · rw [List.getElem?_append_left hj] at h
    have e : reNum (shF l.length j) p.c = p.c := by
      have e2 : shF l.length j = id := by
        funext i
        unfold shF
        rw [if_neg (by omega)]
        rfl
      rw [e2]
      unfold reNum
      simp
    rw [List.getElem?_append_left (by simpa using hj), List.getElem?_map, h, e]
    rfl
  · rw [List.getElem?_append_right (by omega)] at h
    have e2 : shF l.length j = fun i => i + ((l.map (·.c)).length : Int) := by
      funext i
      unfold shF
      rw [if_pos (by omega)]
      simp
    rw [List.getElem?_append_right (by simp; omega), List.getElem?_map, List.getElem?_map]
    rw [show j - (l.map (·.c)).length = j - l.length by simp, h, e2]
    rfl
set_option maxHeartbeats 8000000 in
theorem Join_o {a b : Option Addr} (ca cb : Nat) {l m : List CellP} (ha : a = none → l = []) (hb : b = none → m = []) (hs : Small l) (ht : Small m) (hok : ∀ p ∈ l, CellOk p) (hom : ∀ p ∈ m, CellOk p) (hv : ValidP (l.map (·.c))) (hw : ValidP (m.map (·.c))) (h500 : l.length + m.length ≤ 500) :
    SpecH Tryz.prog 39 (pvs [.slice a l.length ca, .slice b m.length cb]) [.fact (fun w => GrF a l w ∧ GrF b m w)] (RetG (MInv (joinS (l.map (·.c)) (m.map (·.c)))) (fun st => .tuple #[.slice st.oa st.m.length st.oc, errI true]) (fun st => .dead :: .dead :: .dead :: ownN 42 st)) := by
  have hl := hs.1
  have hml := ht.1
  refine ownC hm Tryz.func39 (by kernel_rfl) rfl rfl (fun _ _ => okHB_eq rfl) (fun _ _ => by show 1 ≤ 5; decide) ?_
  (first | refine wX ?_ | exact wZ)
  obtain ⟨t, ht1, ht2⟩ := Check_c a ca l ha hs hok [.fact (fun w => GrF a l w ∧ GrF b m w)] (fun w hw => hw.1.1)
  obtain rfl : t = true := ht1.2 hv
  refine call1 ht2 ?_
  (first | refine wX ?_ | exact wZ)
  obtain ⟨t, ht3, ht4⟩ := Check_c b cb m hb ht hom [.fact (fun w => GrF a l w ∧ GrF b m w)] (fun w hw => hw.1.2)
  obtain rfl : t = true := ht3.2 hw
  refine call1 ht4 ?_
  ((conv => whnf); (repeat ((first | refine BoxN.own ?_ | refine VrN.norm (wrap_i64 (by omega)) ?_ | refine VrN.keep ?_ | refine DrawN.calm (by decide +kernel) ?_ | refine Nd.mk (by decide +kernel) ?_ | refine Nd.mk (by omega) ?_ | (refine Nd.mk ?_ ?_; focus ((repeat' (first | exact trivial | exact wkE_refl _ | refine And.intro ?_ ?_)); done)) | refine RdN.intro _ rfl (by rfl) ?_); (conv => whnf))))
  refine brd_dec (fun h => absurd h (by rw [wrap_i64 (by omega)]; omega)) (fun _ => ?_)
  have hgl : (l.map (·.c)).length = l.length := by simp
  have hin := valid_in hw
  ((conv => whnf); (repeat ((first | refine BoxN.own ?_ | refine VrN.norm (wrap_i64 (by omega)) ?_ | refine VrN.keep ?_ | refine DrawN.calm (by decide +kernel) ?_ | refine Nd.mk (by decide +kernel) ?_ | refine Nd.mk (by omega) ?_ | (refine Nd.mk ?_ ?_; focus ((repeat' (first | exact trivial | exact wkE_refl _ | refine And.intro ?_ ?_)); done)) | refine RdN.intro _ rfl (by rfl) ?_); (conv => whnf))))
  refine RwN.known [.slice a l.length ca, .slice b m.length cb] rfl fun xb => ?_
  ((conv => whnf); (repeat ((first | refine BoxN.own ?_ | refine VrN.norm (wrap_i64 (by omega)) ?_ | refine VrN.keep ?_ | refine DrawN.calm (by decide +kernel) ?_ | refine Nd.mk (by decide +kernel) ?_ | refine Nd.mk (by omega) ?_ | (refine Nd.mk ?_ ?_; focus ((repeat' (first | exact trivial | exact wkE_refl _ | refine And.intro ?_ ?_)); done)) | refine RdN.intro _ rfl (by rfl) ?_); (conv => whnf))))
  refine factG (fun _ => rfl) (concat_o xb a b ca cb l m ha hb hl hml) ?_ ?_
  · exact fun w hw => ⟨hw.2.1, hw.1.1.1, hw.1.2.1⟩
  rintro ⟨qb, qc⟩ ⟨hqb, hqc⟩
  have hLl : (l ++ m).length = l.length + m.length := List.length_append
  have hJl := join_len (l.map (·.c)) (m.map (·.c))
  rw [hgl, show (m.map (·.c)).length = m.length by simp] at hJl
  (first | refine wX ?_ | exact wZ)
  refine LoopN.introS DSt (fun ⟨j, oa, oc, g⟩ => j ≤ l.length + m.length ∧ (oa = none → g = []) ∧ g.map (·.c) = (joinS (l.map (·.c)) (m.map (·.c))).take j ∧ (∀ p ∈ g, CellOk p) ∧ (∀ p ∈ g, OwnP p) ∧ g.length ≤ oc)
    (fun ⟨j, oa, oc, g⟩ => mkS Tryz.f39.ntmps 0 [(0, .c (.v (.slice a l.length ca))), (1, .c (.v (.slice b m.length cb))), (6, .c (.v (.slice oa g.length oc))), (27, .c (.v (.slice (at0 qb) (l ++ m).length qc))), (28, .c (.v (.int .i64 ((l ++ m).length : Int)))), (29, .c (.v (.int .i64 (j : Int))))])
    (fun ⟨_, oa, oc, g⟩ => [.fact (fun w => GrF a l w ∧ GrF b m w), .dead, .app 42 5 (grC (l ++ m)) (at0 qb) (l ++ m).length qc, .app 42 5 (grC g) oa g.length oc, famE (rowsG g)]) (fun ⟨j, _, _, _⟩ => l.length + m.length - j) [.app 42 5 [] none 0 0, .dead] rfl (fun _ => rfl) (fun _ => rfl) (fun _ _ => ⟨trivial, trivial, trivial, trivial, trivial, trivial⟩) ?_ ?_
  · refine ⟨⟨0, none, 0, []⟩, ⟨Nat.zero_le _, fun _ => rfl, rfl, (fun p h => by cases h), (fun p h => by cases h), Nat.le_refl _⟩, ?_, _, (famNew 4 rfl).s, wkE_refl _, trivial, wkE_refl _, wkE_refl _, wkE_refl _, trivial⟩
    (repeat' (first | exact trivial | refine And.intro (by with_reducible rfl) ?_ | (with_reducible exact wkC_refl _) | (with_reducible exact wkCs_refl _) | refine And.intro ?_ ?_))
    all_goals rfl
  rintro ⟨j, oa, oc, g⟩ ⟨hj, hoa, hgc, hgo, hgw, hoc⟩
  have hgl2 : g.length = j := by
    have := congrArg List.length hgc
    simp only [List.length_map, List.length_take, hJl] at this
    omega
  (first | refine wX ?_ | exact wZ)
  refine brd_dec (fun h1 => ?_) (fun h1 => ?_)
  · obtain ⟨p, hp⟩ : ∃ p, (l ++ m)[j]? = some p := ⟨_, List.getElem?_eq_getElem (by omega)⟩
    have hpm := List.mem_of_getElem? hp
    have hpo : CellOk p := (List.mem_append.1 hpm).elim (hok p) (hom p)
    have hpF : ∀ w, GrF a l w ∧ GrF b m w → CellF p w := fun w hw => (List.mem_append.1 hpm).elim (fun h => hw.1.2 p h) (fun h => hw.2.2 p h)
    obtain ⟨hnl, hil⟩ : p.c.names.length ≤ 2000 ∧ p.c.items.length ≤ 2000 := (List.mem_append.1 hpm).elim (hs.2 p) (ht.2 p)
    have hsq : (at0 qb).isSome = true := by
      cases qb with
      | none => rw [hqb rfl] at hp; cases hp
      | some b => rfl
    (first | refine wX ?_ | exact wZ)
    refine Nd.mk ⟨hsq, by omega, by omega⟩ ?_
    (first | refine wX ?_ | exact wZ)
    refine LdN.agg (cellC p) rfl (fun w hw => hw.2.1) rfl (fun q hq => by rw [Int.toNat_natCast]; exact grC_get (l ++ m) j q hq hp) ?_
    (first | refine wXB ?_ | exact wZB)
    refine BoxN.known [.int .i64 0, .int .i64 0, .string { data := #[] }, .slice none 0 0, .slice none 0 0] rfl fun cb2 => ?_
    (first | refine wXB ?_ | exact wZB)
    refine EffW.appTo (i := 5) (q := 0) (ys := cellC p) (cellC p) 5 rfl rfl rfl rfl rfl rfl rfl (Nat.le_of_ble_eq_true rfl) rfl rfl ?_
    (first | refine wXB ?_ | exact wZB)
    refine LdN.one (a := some ⟨cb2, 0, none⟩) (q := 3) (.slice p.na p.c.names.length p.nc) rfl (fun w hw => hw.2.2.2.2.1) rfl ?_
    (first | refine wXB ?_ | exact wZB)
    refine factG (fun _ => rfl) (cloneT p.na p.nc p.c.names hpo.na hnl) ?_ ?_
    · exact fun w hw => (hpF w hw.1).1
    rintro ⟨nb, nc2⟩ ⟨hnb, hnc⟩
    (first | refine wXB ?_ | exact wZB)
    refine EffW.appTo (i := 5) (q := 3) (ys := [.slice (at0 nb) p.c.names.length nc2]) (cellC ⟨p.c, at0 nb, nc2, p.ia, p.ic⟩) 5 rfl rfl rfl rfl rfl rfl rfl (Nat.le_of_ble_eq_true rfl) rfl rfl ?_
    (first | refine wXB ?_ | exact wZB)
    refine LdN.one (a := some ⟨cb2, 0, none⟩) (q := 4) (.slice p.ia p.c.items.length p.ic) rfl (fun w hw => hw.2.2.2.2.1) rfl ?_
    (first | refine wXB ?_ | exact wZB)
    refine factG (fun _ => rfl) (cloneI p.ia p.ic p.c.items hpo.ia hil) ?_ ?_
    · exact fun w hw => (hpF w hw.1).2
    rintro ⟨ib, ic2⟩ ⟨hib, hic⟩
    (first | refine wXB ?_ | exact wZB)
    refine EffW.appTo (i := 5) (q := 4) (ys := [.slice (at0 ib) p.c.items.length ic2]) (cellC ⟨p.c, at0 nb, nc2, at0 ib, ic2⟩) 5 rfl rfl rfl rfl rfl rfl rfl (Nat.le_of_ble_eq_true rfl) rfl rfl ?_
    (first | refine wXB ?_ | exact wZB)
    refine LdN.one (a := some ⟨cb2, 0, none⟩) (q := 4) (.slice (at0 ib) p.c.items.length ic2) rfl (fun w hw => hw.2.2.2.2.1) rfl ?_
    (first | refine wXB ?_ | exact wZB)
    obtain ⟨f, hf⟩ : ∃ f, f = shF l.length j := ⟨_, rfl⟩
    refine LoopN.intro Nat (fun t => t ≤ p.c.items.length)
      (fun t => mkS Tryz.f39.ntmps 0 [(0, .c (.v (.slice a l.length ca))), (1, .c (.v (.slice b m.length cb))), (6, .c (.v (.slice oa g.length oc))), (7, .c (.v (.int .i64 (j : Int)))), (8, .c (.v (.pointer (some ⟨cb2, 0, none⟩)))), (27, .c (.v (.slice (at0 qb) (l ++ m).length qc))), (28, .c (.v (.int .i64 ((l ++ m).length : Int)))), (29, .c (.v (.int .i64 (j : Int)))), (44, .c (.v (.int .i64 (p.c.items.length : Int)))), (45, .c (.v (.int .i64 (t : Int))))])
      (fun t => [.fact (fun w => GrF a l w ∧ GrF b m w), .dead, .app 42 5 (grC (l ++ m)) (at0 qb) (l ++ m).length qc, .app 42 5 (grC g) oa g.length oc, famE (rowsG g), .app 42 5 (cellC ⟨p.c, at0 nb, nc2, at0 ib, ic2⟩) (some ⟨cb2, 0, none⟩) 1 1, .app 9 1 (strC p.c.names) (at0 nb) p.c.names.length nc2, .app 3 1 (iC (mixI f t p.c.items)) (at0 ib) p.c.items.length ic2]) (fun t => p.c.items.length - t) [] rfl (fun _ => rfl) (fun _ => rfl) (fun _ _ => okHB_eq rfl) ?_ ?_
    · refine ⟨0, Nat.zero_le _, ?_, wkE_refl _, trivial, wkE_refl _, wkE_refl _, wkE_refl _, wkE_refl _, wkE_refl _, ?_, trivial⟩
      · (repeat' (first | exact trivial | refine And.intro (by with_reducible rfl) ?_ | (with_reducible exact wkC_refl _) | (with_reducible exact wkCs_refl _) | refine And.intro ?_ ?_))
        all_goals rfl
      · rw [mixI_zero]; exact wkE_refl _
    intro t htl
    (first | refine wXB ?_ | exact wZB)
    refine brd_dec (fun h3 => ?_) (fun h3 => ?_)
    · obtain ⟨y, hy⟩ : ∃ y, p.c.items[t]? = some y := ⟨_, List.getElem?_eq_getElem (by omega)⟩
      obtain ⟨ib, rfl⟩ : ∃ b, ib = some b := by
        cases ib with
        | none => rw [hib rfl] at hy; cases hy
        | some b => exact ⟨b, rfl⟩
      have hms : mixI f (t + 1) p.c.items = (mixI f t p.c.items).set t (f y) := by
        unfold mixI
        rw [← mix_set (f := f) hy]
      have hset : (iC (mixI f t p.c.items)).set t (.int .i64 (f y)) = iC (mixI f (t + 1) p.c.items) := by
        rw [hms]
        unfold iC
        rw [List.map_set]
      have hq1 : t + 1 ≤ p.c.items.length * 1 := by omega
      have hq2 : t < (iC (mixI f t p.c.items)).length := by unfold iC; rw [List.length_map, mixI_len]; omega
      (first | refine wXB ?_ | exact wZB)
      refine brd_dec (fun h4 => ?_) (fun h4 => ?_)
      · have hyb : 0 ≤ y ∧ y ≤ 500 := by
          rcases List.mem_append.1 hpm with h | h
          · have hyi := valid_in hv p.c (List.mem_map.2 ⟨p, h, rfl⟩) y (List.mem_of_getElem? hy)
            have h5 := hyi.2
            simp only [List.length_map] at h5
            exact ⟨hyi.1, by omega⟩
          · have hyi := valid_in hw p.c (List.mem_map.2 ⟨p, h, rfl⟩) y (List.mem_of_getElem? hy)
            have h5 := hyi.2
            simp only [List.length_map] at h5
            exact ⟨hyi.1, by omega⟩
        have hfy : f y = y + (l.length : Int) := by
          rw [hf]
          unfold shF
          rw [if_pos (by omega)]
        (first | refine wXB ?_ | exact wZB)
        refine LdN.one (a := some ⟨cb2, 0, none⟩) (q := 4) (.slice (at0 (some ib)) p.c.items.length ic2) rfl (fun w hw => hw.2.2.2.2.1) rfl ?_
        (first | refine wXB ?_ | exact wZB)
        refine Nd.mk ⟨rfl, by omega, by omega⟩ ?_
        (first | refine wXB ?_ | exact wZB)
        refine LdN.one (.int .i64 y) rfl (fun w hw => hw.2.2.2.2.2.2.1) (by rw [Int.toNat_natCast]; show (iC (mixI f t p.c.items))[t * 1]? = _; rw [Nat.mul_one]; exact iC_get (by unfold mixI; rw [mix_get (by omega)]; exact hy)) ?_
        (first | refine wXB ?_ | exact wZB)
        rw [wrap_i64 (x := y + (l.length : Int)) (by omega), ← hfy]
        refine Nd.mk ⟨rfl, by omega, by omega⟩ ?_
        (first | refine wXB ?_ | exact wZB)
        refine EffW.appTo (i := 7) (q := t) (ys := [.int .i64 (f y)]) (iC (mixI f (t + 1) p.c.items)) 1 rfl ?_ rfl rfl rfl rfl rfl hq1 (by rw [put_set _ hq2]; exact hset) rfl ?_
        · rw [Int.toNat_natCast]
          show AV.c (CV.v (Value.pointer (some (((⟨ib, 0, none⟩ : Addr)).add (t * 1))))) = _
          rw [Nat.mul_one]
          exact congrArg (fun x => AV.c (CV.v (Value.pointer (some x)))) (add_lit0 ib t)
        (first | refine wXB ?_ | exact wZB)
        refine ⟨t + 1, by omega, by omega, ?_, wkE_refl _, trivial, wkE_refl _, wkE_refl _, wkE_refl _, wkE_refl _, wkE_refl _, wkE_refl _, trivial⟩
        (repeat' (first | exact trivial | refine And.intro (by with_reducible rfl) ?_ | (with_reducible exact wkC_refl _) | (with_reducible exact wkCs_refl _) | refine And.intro ?_ ?_))
        all_goals first | rfl | exact av_int (by rw [wrap_i64 (by omega)]; omega)
      · have hme : mixI f (t + 1) p.c.items = mixI f t p.c.items := by
          rw [hms]
          refine set_same ?_
          unfold mixI
          rw [mix_get (by omega), hy]
          have : f y = y := by
            rw [hf]
            unfold shF
            rw [if_neg (by omega)]
          rw [this]
        (first | refine wXB ?_ | exact wZB)
        refine ⟨t + 1, by omega, by omega, ?_, wkE_refl _, trivial, wkE_refl _, wkE_refl _, wkE_refl _, wkE_refl _, wkE_refl _, by rw [hme]; exact wkE_refl _, trivial⟩
        (repeat' (first | exact trivial | refine And.intro (by with_reducible rfl) ?_ | (with_reducible exact wkC_refl _) | (with_reducible exact wkCs_refl _) | refine And.intro ?_ ?_))
        all_goals first | rfl | exact av_int (by rw [wrap_i64 (by omega)]; omega)
    · obtain rfl : t = p.c.items.length := by omega
      rw [mixI_all]
      (first | refine wXB ?_ | exact wZB)
      refine LdN.agg (a := some ⟨cb2, 0, none⟩) (q := 0) (cellC ⟨p.c, at0 nb, nc2, at0 ib, ic2⟩) rfl (fun w hw => hw.2.2.2.2.1) rfl (fun q hq => by rw [Nat.zero_add]) ?_
      (first | refine wXB ?_ | exact wZB)
      refine Nd.mk ⟨Nat.le_refl 1, rfl, rfl⟩ ?_
      (conv => whnf)
      have hnr : reNum f p.c = { p.c with items := p.c.items.map f } := rfl
      have hcc : cellC ⟨p.c, at0 nb, nc2, at0 ib, ic2⟩ = cellC ⟨reNum f p.c, at0 nb, nc2, at0 ib, ic2⟩ := by
        unfold cellC reNum
        simp only [List.length_map]
      refine AppN.grow 3 (grC g) (cellC ⟨p.c, at0 nb, nc2, at0 ib, ic2⟩) rfl rfl ⟨Nat.le_refl 1, ⟨by show (g.length + 1) * 80 ≤ _; omega, by omega⟩, by decide⟩ fun ob2 oc2 hoc2 _ => ?_
      (first | refine wXB ?_ | exact wZB)
      obtain ⟨q, hq⟩ : ∃ q : CellP, q = ⟨reNum f p.c, at0 nb, nc2, at0 ib, ic2⟩ := ⟨_, rfl⟩
      have hm2 : g.length + 1 = (g ++ [q]).length := by simp
      have hg2 := grC_snoc g q
      have hqr : rowsP q = optRow 9 1 p.c.names.length (strC p.c.names) nb nc2 ++ optRow 3 1 p.c.items.length (iC (p.c.items.map f)) ib ic2 := by
        rw [hq]
        unfold rowsP optRow reNum
        simp only [List.length_map]
        cases nb <;> cases ib <;> rfl
      have hrw := rowsG_snoc g q
      rw [hqr] at hrw
      have hp1 : (optRow 9 1 p.c.names.length (strC p.c.names) nb nc2 ++ rowsG g).Perm (rowsG g ++ optRow 9 1 p.c.names.length (strC p.c.names) nb nc2) := List.perm_append_comm
      have hp2 : (optRow 3 1 p.c.items.length (iC (p.c.items.map f)) ib ic2 ++ (rowsG g ++ optRow 9 1 p.c.names.length (strC p.c.names) nb nc2)).Perm (rowsG (g ++ [q])) := by
        rw [hrw, ← List.append_assoc (rowsG g)]
        exact List.perm_append_comm
      rw [hcc, ← hq, ← hg2, hm2]
      refine ⟨⟨j + 1, some ⟨ob2, 0, none⟩, oc2, g ++ [q]⟩, ⟨by omega, (fun h => by cases h), ?_, ?_, ?_, by omega⟩, by show l.length + m.length - (j + 1) < l.length + m.length - j; omega, ?_, _, ((famPutO 4 6 nb rfl rfl rfl hp1).trans (famPutO 4 7 ib rfl rfl rfl hp2)).s, wkE_refl _, trivial, wkE_refl _, wkE_refl _, wkE_refl _, trivial⟩
      · rw [List.take_add_one, join_get hp, List.map_append, hgc, hq, ← hf]
        rfl
      · intro r hr
        rcases List.mem_append.1 hr with hr | hr
        · exact hgo r hr
        · rw [List.mem_singleton.1 hr, hq]
          exact ⟨fun h => hnb (by cases nb with | none => rfl | some b => cases h), fun h => by
            have : p.c.items = [] := hib (by cases ib with | none => rfl | some b => cases h)
            show (reNum f p.c).items = []
            rw [hnr, this]; rfl, hpo.nl, by show (reNum f p.c).items.length ≤ _; rw [hnr]; simp only [List.length_map]; omega, hpo.nw, hpo.tl, hnc, by show (reNum f p.c).items.length ≤ ic2; rw [hnr]; simp only [List.length_map]; exact hic⟩
      · intro r hr
        rcases List.mem_append.1 hr with hr | hr
        · exact hgw r hr
        · rw [List.mem_singleton.1 hr, hq]
          exact ⟨fun ad h => by cases nb with | none => cases h | some b => cases h; rfl, fun ad h => by cases ib with | none => cases h | some b => cases h; rfl⟩
      · (repeat' (first | exact trivial | refine And.intro (by with_reducible rfl) ?_ | (with_reducible exact wkC_refl _) | (with_reducible exact wkCs_refl _) | refine And.intro ?_ ?_))
        all_goals first | rfl | exact av_int (by rw [wrap_i64 (by omega)]; omega)
  · obtain rfl : j = l.length + m.length := by omega
    rw [List.take_of_length_le (by omega)] at hgc
    (first | refine wX ?_ | exact wZ)
    exact ⟨⟨0, oa, oc, g⟩, ⟨hoa, hgc, hgo, hgw, hoc⟩, rfl, trivial, trivial, trivial, wkE_refl _, wkE_refl _, trivial⟩
end Go.Proofs.YtahjbnfbilkbcaaGreatDoor

/-
  Contract: Join (program), of any two graphs.
-/
namespace Go.Proofs.YtahjbnfbilkbcaaGreatDoor
open Go.AX Go.RowKit Go.Core
set_option maxRecDepth 20000

set_option maxHeartbeats 4000000 in
theorem Join_c {a b : Option Addr} (ca cb : Nat) {l m : List CellP} (ha : a = none → l = []) (hb : b = none → m = []) (hs : Small l) (ht : Small m) (hok : ∀ p ∈ l, CellOk p) (hom : ∀ p ∈ m, CellOk p) (t1 t2 : Bool) (h1 : t1 = true ↔ ValidP (l.map (·.c))) (h2 : t2 = true ↔ ValidP (m.map (·.c))) :
    SpecH Tryz.prog 39 (pvs [.slice a l.length ca, .slice b m.length cb]) [.fact (fun w => GrF a l w ∧ GrF b m w)] (RetG (MInv (joinL t1 t2 (l.length + m.length) (l.map (·.c)) (m.map (·.c)))) (fun st => .tuple #[.slice st.oa st.m.length st.oc, .int .i64 (joinV t1 t2 (l.length + m.length))]) (fun st => .dead :: .dead :: .dead :: ownN 42 st)) := by
  have hl := hs.1
  have hml := ht.1
  cases t1 with
  | false =>
    -- false: whether the first one is valid
    refine SpecH.pad [.dead, .dead, .app 42 5 [] none 0 0, .dead] rfl ?_
    refine SpecH.turnS (famNew 4 rfl).s ?_
    refine ownC hm Tryz.func39 (by kernel_rfl) rfl rfl (fun _ _ => okHB_eq rfl) (fun _ _ => by show 5 ≤ 5; decide) ?_
    (first | refine wX ?_ | exact wZ)
    obtain ⟨t, ht1, ht2⟩ := Check_c a ca l ha hs hok [.fact (fun w => GrF a l w ∧ GrF b m w), .dead, .dead, .app 42 5 [] none 0 0, famE []] (fun w hw => hw.1.1)
    obtain rfl : t = false := by rw [Bool.eq_iff_iff, ht1, ← h1]
    refine call1 ht2 ?_
    (first | refine wX ?_ | exact wZ)
    exact ⟨⟨0, none, 0, []⟩, ⟨fun _ => rfl, rfl, (fun p h => by cases h), (fun p h => by cases h), Nat.le_refl _⟩, rfl, trivial, trivial, trivial, wkE_refl _, wkE_refl _, trivial⟩
  | true =>
  cases t2 with
  | false =>
    -- true: whether the first one is valid
    refine SpecH.pad [.dead, .dead, .app 42 5 [] none 0 0, .dead] rfl ?_
    refine SpecH.turnS (famNew 4 rfl).s ?_
    refine ownC hm Tryz.func39 (by kernel_rfl) rfl rfl (fun _ _ => okHB_eq rfl) (fun _ _ => by show 5 ≤ 5; decide) ?_
    (first | refine wX ?_ | exact wZ)
    obtain ⟨t, ht1, ht2⟩ := Check_c a ca l ha hs hok [.fact (fun w => GrF a l w ∧ GrF b m w), .dead, .dead, .app 42 5 [] none 0 0, famE []] (fun w hw => hw.1.1)
    obtain rfl : t = true := by rw [Bool.eq_iff_iff, ht1, ← h1]
    refine call1 ht2 ?_
    (first | refine wX ?_ | exact wZ)
    obtain ⟨t, ht3, ht4⟩ := Check_c b cb m hb ht hom [.fact (fun w => GrF a l w ∧ GrF b m w), .dead, .dead, .app 42 5 [] none 0 0, famE []] (fun w hw => hw.1.2)
    obtain rfl : t = false := by rw [Bool.eq_iff_iff, ht3, ← h2]
    refine call1 ht4 ?_
    (first | refine wX ?_ | exact wZ)
    exact ⟨⟨0, none, 0, []⟩, ⟨fun _ => rfl, rfl, (fun p h => by cases h), (fun p h => by cases h), Nat.le_refl _⟩, rfl, trivial, trivial, trivial, wkE_refl _, wkE_refl _, trivial⟩
  | true =>
  by_cases h5 : l.length + m.length ≤ 500
  · have hj := Join_o ca cb ha hb hs ht hok hom (h1.1 rfl) (h2.1 rfl) h5
    have e1 : joinL true true (l.length + m.length) (l.map (·.c)) (m.map (·.c)) = joinS (l.map (·.c)) (m.map (·.c)) := by
      unfold joinL
      rw [decide_eq_true h5]
      rfl
    have e2 : joinV true true (l.length + m.length) = 0 := by
      unfold joinV
      rw [if_pos h5]
      rfl
    rw [e1, e2]
    exact hj
  · have e1 : joinL true true (l.length + m.length) (l.map (·.c)) (m.map (·.c)) = [] := by
      unfold joinL
      rw [decide_eq_false h5]
      rfl
    have e2 : joinV true true (l.length + m.length) = 9 := by
      unfold joinV
      rw [if_neg h5]
      rfl
    rw [e1, e2]
    -- true: whether the first one is valid
    refine SpecH.pad [.dead, .dead, .app 42 5 [] none 0 0, .dead] rfl ?_
    refine SpecH.turnS (famNew 4 rfl).s ?_
    refine ownC hm Tryz.func39 (by kernel_rfl) rfl rfl (fun _ _ => okHB_eq rfl) (fun _ _ => by show 5 ≤ 5; decide) ?_
    (first | refine wX ?_ | exact wZ)
    obtain ⟨t, ht1, ht2⟩ := Check_c a ca l ha hs hok [.fact (fun w => GrF a l w ∧ GrF b m w), .dead, .dead, .app 42 5 [] none 0 0, famE []] (fun w hw => hw.1.1)
    obtain rfl : t = true := by rw [Bool.eq_iff_iff, ht1, ← h1]
    refine call1 ht2 ?_
    (first | refine wX ?_ | exact wZ)
    obtain ⟨t, ht3, ht4⟩ := Check_c b cb m hb ht hom [.fact (fun w => GrF a l w ∧ GrF b m w), .dead, .dead, .app 42 5 [] none 0 0, famE []] (fun w hw => hw.1.2)
    obtain rfl : t = true := by rw [Bool.eq_iff_iff, ht3, ← h2]
    refine call1 ht4 ?_
    (first | refine wX ?_ | exact wZ)
    refine brd_dec (fun _ => ?_) (fun h => absurd h (by rw [wrap_i64 (by omega)]; omega))
    (first | refine wX ?_ | exact wZ)
    exact ⟨⟨0, none, 0, []⟩, ⟨fun _ => rfl, rfl, (fun p h => by cases h), (fun p h => by cases h), Nat.le_refl _⟩, rfl, trivial, trivial, trivial, wkE_refl _, wkE_refl _, trivial⟩
end Go.Proofs.YtahjbnfbilkbcaaGreatDoor

/-
  Contracts: slices.Equal of numbers and strings, the closure of Same (program).
-/
namespace Go.Proofs.YtahjbnfbilkbcaaGreatDoor
open Go.AX Go.RowKit Go.Core
set_option maxRecDepth 20000

theorem take_next {α : Type} {l m : List α} {i : Nat} {x y : α} (h : l.take i = m.take i) (hx : l[i]? = some x) (hy : m[i]? = some y) (e : x = y) : l.take (i + 1) = m.take (i + 1) := by
  rw [List.take_add_one, List.take_add_one, h, hx, hy, e]
def valT (x : List UInt8) : Value := .string (bs x)
-- slices.Equal[[]int,int]: the function, iC: the cells, equalI_c: the theorem, Int: the elements in Lean, .int .i64: the value of one, iC_get: its place
set_option maxHeartbeats 1000000 in
theorem equalI_c (a b : Option Addr) (ca cb : Nat) (l m : List (Int)) (ha : a = none → l = []) (hb : b = none → m = []) (hl : l.length ≤ 200000000000000) (hm2 : m.length ≤ 200000000000000) :
    ∀ H, (∀ w, Facts H w → SlAt a (l.length * 1) (iC l) w ∧ SlAt b (m.length * 1) (iC m) w) → SpecH Tryz.prog 77 (pvs [.slice a l.length ca, .slice b m.length cb]) H (Ret (.bool (decide (l = m))) H) := by
  refine factC hm Tryz.func77 (by kernel_rfl) rfl rfl ?_
  (first | refine wX ?_ | exact wZ)
  refine brd_ne (fun h0 => ?_) (fun h0 => ?_)
  · (first | refine wX ?_ | exact wZ)
    exact out_bool (decide_eq_false fun e => h0 (by rw [e])).symm
  have hlen : l.length = m.length := by omega
  (first | refine wX ?_ | exact wZ)
  refine loopS Nat (fun i => i ≤ l.length ∧ l.take i = m.take i) (fun i => mkS Tryz.f77.ntmps 0 [(0, .c (.v (.slice a l.length ca))), (1, .c (.v (.slice b m.length cb))), (12, .c (.v (.int .i64 (l.length : Int)))), (13, .c (.v (.int .i64 (i : Int))))]) (fun i => l.length - i) rfl (fun _ => rfl) 0 ⟨Nat.zero_le _, rfl⟩ ?_ ?_
  · (repeat' (first | exact trivial | refine And.intro (by with_reducible rfl) ?_ | (with_reducible exact wkC_refl _) | (with_reducible exact wkCs_refl _) | refine And.intro ?_ ?_))
    all_goals rfl
  intro i ⟨hi, he⟩
  (first | refine wX ?_ | exact wZ)
  refine brd_dec (fun h1 => ?_) (fun h1 => ?_)
  · obtain ⟨x, hx⟩ : ∃ x, l[i]? = some x := ⟨_, List.getElem?_eq_getElem (by omega)⟩
    obtain ⟨y, hy⟩ : ∃ y, m[i]? = some y := ⟨_, List.getElem?_eq_getElem (by omega)⟩
    have hsa : a.isSome = true := by
      cases a with
      | none => rw [ha rfl] at hx; cases hx
      | some b => rfl
    have hsb : b.isSome = true := by
      cases b with
      | none => rw [hb rfl] at hy; cases hy
      | some b => rfl
    (first | refine wX ?_ | exact wZ)
    refine Nd.mk ⟨hsa, by omega, by omega⟩ ?_
    (first | refine wX ?_ | exact wZ)
    refine LdN.one (.int .i64 x) rfl (fun w hw => hw.1.1) (by rw [Int.toNat_natCast]; show (iC l)[i * 1]? = _; rw [Nat.mul_one]; exact iC_get hx) ?_
    (first | refine wX ?_ | exact wZ)
    refine Nd.mk ⟨hsb, by omega, by omega⟩ ?_
    (first | refine wX ?_ | exact wZ)
    refine LdN.one (.int .i64 y) rfl (fun w hw => hw.1.2) (by rw [Int.toNat_natCast]; show (iC m)[i * 1]? = _; rw [Nat.mul_one]; exact iC_get hy) ?_
    (first | refine wX ?_ | exact wZ)
    rw [show (x != y) = !(x == y) from rfl]
    cases hst : x == y with
    | false =>
      (first | refine wX ?_ | exact wZ)
      exact out_bool (decide_eq_false fun h => by
        subst h
        have hxy : x = y := Option.some.inj (hx.symm.trans hy)
        rw [hxy, beq_self_eq_true] at hst
        cases hst).symm
    | true =>
      (first | refine wX ?_ | exact wZ)
      refine ⟨i + 1, ⟨by omega, take_next he hx hy (eq_of_beq hst)⟩, by omega, ?_, by (repeat' (first | exact trivial | exact wkE_refl _ | refine And.intro ?_ ?_))⟩
      (repeat' (first | exact trivial | refine And.intro (by with_reducible rfl) ?_ | (with_reducible exact wkC_refl _) | (with_reducible exact wkCs_refl _) | refine And.intro ?_ ?_))
      all_goals first | rfl | exact av_int (by rw [wrap_i64 (by omega)]; omega)
  · obtain rfl : i = l.length := by omega
    rw [List.take_length, hlen, List.take_length] at he
    (first | refine wX ?_ | exact wZ)
    exact out_bool (decide_eq_true he).symm
-- slices.Equal[[]string,string]: the function, strC: the cells, equalT_c: the theorem, List UInt8: the elements in Lean, valT: the value of one, strC_get: its place
set_option maxHeartbeats 1000000 in
theorem equalT_c (a b : Option Addr) (ca cb : Nat) (l m : List (List UInt8)) (ha : a = none → l = []) (hb : b = none → m = []) (hl : l.length ≤ 200000000000000) (hm2 : m.length ≤ 200000000000000) :
    ∀ H, (∀ w, Facts H w → SlAt a (l.length * 1) (strC l) w ∧ SlAt b (m.length * 1) (strC m) w) → SpecH Tryz.prog 57 (pvs [.slice a l.length ca, .slice b m.length cb]) H (Ret (.bool (decide (l = m))) H) := by
  refine factC hm Tryz.func57 (by kernel_rfl) rfl rfl ?_
  (first | refine wX ?_ | exact wZ)
  refine brd_ne (fun h0 => ?_) (fun h0 => ?_)
  · (first | refine wX ?_ | exact wZ)
    exact out_bool (decide_eq_false fun e => h0 (by rw [e])).symm
  have hlen : l.length = m.length := by omega
  (first | refine wX ?_ | exact wZ)
  refine loopS Nat (fun i => i ≤ l.length ∧ l.take i = m.take i) (fun i => mkS Tryz.f57.ntmps 0 [(0, .c (.v (.slice a l.length ca))), (1, .c (.v (.slice b m.length cb))), (12, .c (.v (.int .i64 (l.length : Int)))), (13, .c (.v (.int .i64 (i : Int))))]) (fun i => l.length - i) rfl (fun _ => rfl) 0 ⟨Nat.zero_le _, rfl⟩ ?_ ?_
  · (repeat' (first | exact trivial | refine And.intro (by with_reducible rfl) ?_ | (with_reducible exact wkC_refl _) | (with_reducible exact wkCs_refl _) | refine And.intro ?_ ?_))
    all_goals rfl
  intro i ⟨hi, he⟩
  (first | refine wX ?_ | exact wZ)
  refine brd_dec (fun h1 => ?_) (fun h1 => ?_)
  · obtain ⟨x, hx⟩ : ∃ x, l[i]? = some x := ⟨_, List.getElem?_eq_getElem (by omega)⟩
    obtain ⟨y, hy⟩ : ∃ y, m[i]? = some y := ⟨_, List.getElem?_eq_getElem (by omega)⟩
    have hsa : a.isSome = true := by
      cases a with
      | none => rw [ha rfl] at hx; cases hx
      | some b => rfl
    have hsb : b.isSome = true := by
      cases b with
      | none => rw [hb rfl] at hy; cases hy
      | some b => rfl
    (first | refine wX ?_ | exact wZ)
    refine Nd.mk ⟨hsa, by omega, by omega⟩ ?_
    (first | refine wX ?_ | exact wZ)
    refine LdN.one (valT x) rfl (fun w hw => hw.1.1) (by rw [Int.toNat_natCast]; show (strC l)[i * 1]? = _; rw [Nat.mul_one]; exact strC_get hx) ?_
    (first | refine wX ?_ | exact wZ)
    refine Nd.mk ⟨hsb, by omega, by omega⟩ ?_
    (first | refine wX ?_ | exact wZ)
    refine LdN.one (valT y) rfl (fun w hw => hw.1.2) (by rw [Int.toNat_natCast]; show (strC m)[i * 1]? = _; rw [Nat.mul_one]; exact strC_get hy) ?_
    (first | refine wX ?_ | exact wZ)
    rw [show ((bs x).data.toList == (bs y).data.toList) = (x == y) from txt_eq x y]
    cases hst : x == y with
    | false =>
      (first | refine wX ?_ | exact wZ)
      exact out_bool (decide_eq_false fun h => by
        subst h
        have hxy : x = y := Option.some.inj (hx.symm.trans hy)
        rw [hxy, beq_self_eq_true] at hst
        cases hst).symm
    | true =>
      (first | refine wX ?_ | exact wZ)
      refine ⟨i + 1, ⟨by omega, take_next he hx hy (eq_of_beq hst)⟩, by omega, ?_, by (repeat' (first | exact trivial | exact wkE_refl _ | refine And.intro ?_ ?_))⟩
      (repeat' (first | exact trivial | refine And.intro (by with_reducible rfl) ?_ | (with_reducible exact wkC_refl _) | (with_reducible exact wkCs_refl _) | refine And.intro ?_ ?_))
      all_goals first | rfl | exact av_int (by rw [wrap_i64 (by omega)]; omega)
  · obtain rfl : i = l.length := by omega
    rw [List.take_length, hlen, List.take_length] at he
    (first | refine wX ?_ | exact wZ)
    exact out_bool (decide_eq_true he).symm
end Go.Proofs.YtahjbnfbilkbcaaGreatDoor
