/-
  Lemmas (C1 P2 P3 N1 N2 P4 P5 P6 P7 G1 S5 S6 S7 S8 S9 N3 Ax41 Ax42 V1 W1 W2 Q1 Q2 Q3).
-/
import Derived.Lib.IndexAny
import Derived.Lib.IndexMore
import Derived.Test.YtpikpjlhdkkigaaGreatDoorTbk4
set_option linter.unusedVariables false
set_option linter.unusedSimpArgs false
namespace Go.Proofs.YtpikpjlhdkkigaaGreatDoor
open Go.AX Go.RowKit Go.Tree
set_option maxRecDepth 20000
def nodeC (t : TP) : List Value := [.int .i64 t.op, .string (bs t.name), .int .i64 t.n, .slice t.a t.kids.length t.cap]
def nodesC (l : List TP) : List Value := l.flatMap nodeC
abbrev nodeV (t : TP) : Value := .agg (nodeC t).toArray
theorem nodesC_get (l : List TP) (i j : Nat) (hj : j < 4) {t : TP} (ht : l[i]? = some t) : (nodesC l)[i * 4 + j]? = (nodeC t)[j]? := by
 unfold nodesC
 rw [flat_get (g := nodeC) (m := 4) (fun _ => rfl) l i j hj, ht]
 rfl
theorem nodesC_len (l : List TP) : (nodesC l).length = l.length * 4 := flat_len (g := nodeC) (fun _ => rfl) l
theorem nodesC_app (l m : List TP) : nodesC l ++ nodesC m = nodesC (l ++ m) := by simp [nodesC]
theorem nodesC_one (t : TP) : nodeC t = nodesC [t] := by simp [nodesC]
inductive TreeF (w : World) : TP → Prop
 | mk {t : TP} (h : SlAt t.a (t.kids.length * 4) (nodesC t.kids) w) (hl : t.kids.length ≤ 1048576) (hs : t.name.length ≤ 1048576) (hc : t.kids.length ≤ t.cap) (hk : ∀ k ∈ t.kids, TreeF w k) : TreeF w t
theorem TreeF.row {w : World} {t : TP} (h : TreeF w t) : SlAt t.a (t.kids.length * 4) (nodesC t.kids) w := by cases h; assumption
theorem TreeF.len {w : World} {t : TP} (h : TreeF w t) : t.kids.length ≤ 1048576 := by cases h; assumption
theorem TreeF.str {w : World} {t : TP} (h : TreeF w t) : t.name.length ≤ 1048576 := by cases h; assumption
theorem TreeF.cap {w : World} {t : TP} (h : TreeF w t) : t.kids.length ≤ t.cap := by cases h; assumption
theorem TreeF.kid {w : World} {t k : TP} (h : TreeF w t) (hk : k ∈ t.kids) : TreeF w k := by cases h with | mk _ _ _ _ h => exact h k hk
inductive TreeK : TP → Prop
 | mk {t : TP} (ha : t.a = none → t.kids = []) (hl : t.kids.length ≤ 1048576) (hs : t.name.length ≤ 1048576) (hc : t.kids.length ≤ t.cap) (hk : ∀ k ∈ t.kids, TreeK k) : TreeK t
theorem TreeK.nil {t : TP} (h : TreeK t) : t.a = none → t.kids = [] := by cases h; assumption
theorem TreeK.len {t : TP} (h : TreeK t) : t.kids.length ≤ 1048576 := by cases h; assumption
theorem TreeK.str {t : TP} (h : TreeK t) : t.name.length ≤ 1048576 := by cases h; assumption
theorem TreeK.cap {t : TP} (h : TreeK t) : t.kids.length ≤ t.cap := by cases h; assumption
theorem TreeK.kid {t k : TP} (h : TreeK t) (hk : k ∈ t.kids) : TreeK k := by cases h with | mk _ _ _ _ h => exact h k hk
theorem TreeF.k {w : World} : ∀ {t : TP}, TreeF w t → TreeK t := by
 intro t
 refine TP.ind (P := fun t => TreeF w t → TreeK t) (fun t ih h => .mk (fun ha => ?_) h.len h.str h.cap fun k hk => ih k hk (h.kid hk)) t
 cases hk : t.kids with
 | nil => rfl
 | cons k l =>
  have h2 := h.row.2.1 (by rw [hk]; simp)
  rw [ha] at h2
  cases h2
theorem TreeF.imm {w : World} : ∀ {t : TP}, TreeF w t → Imm (fun b => b < w.heap.size) w fun w => TreeF w t := by
 intro t
 refine TP.ind (P := fun t => TreeF w t → Imm (fun b => b < w.heap.size) w fun w => TreeF w t) (fun t ih h => ⟨h, fun w' hw => ?_⟩) t
 exact .mk (h.row.imm.2 w' hw) h.len h.str h.cap fun k hk => (ih k hk (h.kid hk)).2 w' hw
theorem nodesC_plain (l : List TP) : ∀ u ∈ nodesC l, oneV u = true := fun u hu => by
 obtain ⟨t, _, ht⟩ := List.mem_flatMap.1 hu
 simp only [nodeC, List.mem_cons, List.not_mem_nil, or_false] at ht
 rcases ht with rfl | rfl | rfl | rfl <;> rfl
theorem isT {α : Type} {a : Option Addr} {l : List α} {i : Nat} {x : α} (h : a = none → l = []) (hx : l[i]? = some x) : a.isSome = true := by
 cases a with
 | none => rw [h rfl] at hx; cases hx
 | some b => rfl
theorem take_t {α : Type} {l m : List α} {i : Nat} {x y : α} (h : l.take i = m.take i) (hx : l[i]? = some x) (hy : m[i]? = some y) : (x = y → l.take (i + 1) = m.take (i + 1)) ∧ (x ≠ y → l ≠ m) := by
 refine ⟨fun e => by rw [List.take_add_one, List.take_add_one, h, hx, hy, e], fun ne e => ne ?_⟩
 rw [e, hy] at hx
 exact (Option.some.inj hx).symm
theorem kid_some {t k : TP} {i : Nat} (h : TreeK t) (hx : t.kids[i]? = some k) : t.a.isSome = true := isT h.nil hx
end Go.Proofs.YtpikpjlhdkkigaaGreatDoor
namespace Go.Tree
set_option maxRecDepth 20000
abbrev Nm := List (List (List UInt8))
abbrev Pl := Nat × Nat
structure WR where
 nm : Nm
 pl : List Pl
 un : Bool
def namesAt (nm : Nm) (s : Nat) : List (List UInt8) := nm.getD s []
def fnd (nm : Nm) : List Nat → List UInt8 → Option Pl
 | [], _ => none
 | s :: ch, x => match (namesAt nm s).idxOf? x with
  | some i => some (s, i)
  | none => fnd nm ch x
def decl (nm : Nm) (s : Nat) (x : List UInt8) : Nm × Pl := (nm.set s (namesAt nm s ++ [x]), (s, (namesAt nm s).length))
def sets (nm : Nm) (ch : List Nat) (x : List UInt8) : Nm × Pl := match fnd nm ch x with
 | some p => (nm, p)
 | none => decl nm (ch.headD 0) x
def WR.pre (r : WR) (p : Pl) : WR := ⟨r.nm, p :: r.pl, r.un⟩
def WR.cat (r q : WR) : WR := ⟨q.nm, r.pl ++ q.pl, r.un || q.un⟩
mutual
def wk : TP → List Nat → Nm → WR
 | ⟨o, x, _, _, ks, _⟩, ch, nm =>
  if o = 10 then ⟨(wks ks ch nm).nm, (fnd nm ch x).getD (0, 0) :: (wks ks ch nm).pl, (fnd nm ch x).isNone || (wks ks ch nm).un⟩
  else if o = 11 ∨ o = 49 ∨ (o = 52 ∧ x ≠ []) then (wks ks ch (sets nm ch x).1).pre (sets nm ch x).2
  else if o = 54 ∧ x ≠ [] then (wks ks ch (decl nm (ch.headD 0) x).1).pre (decl nm (ch.headD 0) x).2
  else if o = 35 then wks ks [nm.length] (nm ++ [[]])
  else if o = 24 ∨ o = 25 then wks ks (nm.length :: ch) (nm ++ [[]])
  else if o = 41 ∧ x ≠ [] then (wkr ks x ch nm).1.pre (wkr ks x ch nm).2
  else if o = 32 ∨ o = 33 ∨ o = 34 then wkc ks ch nm
  else wks ks ch nm
termination_by structural x => x
def wks : List TP → List Nat → Nm → WR
 | [], _, nm => ⟨nm, [], false⟩
 | k :: ks, ch, nm => (wk k ch nm).cat (wks ks ch (wk k ch nm).nm)
termination_by structural x => x
def wkc : List TP → List Nat → Nm → WR
 | [], _, nm => ⟨nm, [], false⟩
 | k :: ks, ch, nm => if ks.isEmpty then wk k [nm.length] (nm ++ [[]]) else (wk k ch nm).cat (wkc ks ch (wk k ch nm).nm)
termination_by structural x => x
def wkr : List TP → List UInt8 → List Nat → Nm → WR × Pl
 | [], _, _, nm => (⟨nm, [], false⟩, (0, 0))
 | k :: ks, x, ch, nm => if ks.isEmpty then (wk k ch (sets nm ch x).1, (sets nm ch x).2) else ((wk k ch nm).cat (wkr ks x ch (wk k ch nm).nm).1, (wkr ks x ch (wk k ch nm).nm).2)
termination_by structural x => x
end
def Grw (nm nm' : Nm) : Prop := nm.length ≤ nm'.length ∧ ∀ s, namesAt nm s <+: namesAt nm' s
theorem Grw.refl (nm : Nm) : Grw nm nm := ⟨Nat.le_refl _, fun _ => List.prefix_refl _⟩
theorem Grw.trans {a b c : Nm} (h : Grw a b) (k : Grw b c) : Grw a c := ⟨Nat.le_trans h.1 k.1, fun s => (h.2 s).trans (k.2 s)⟩
theorem namesAt_set (nm : Nm) (s u : Nat) (l : List (List UInt8)) : namesAt (nm.set s l) u = if s = u ∧ s < nm.length then l else namesAt nm u := by
 unfold namesAt
 rw [List.getD_eq_getElem?_getD, List.getD_eq_getElem?_getD, List.getElem?_set]
 split
 ·rename_i h
  subst h
  by_cases hs : s < nm.length
  ·simp [hs]
  ·simp [hs]
 ·rename_i h
  rw [if_neg (fun e => h e.1)]
theorem namesAt_open (nm : Nm) (u : Nat) : namesAt (nm ++ [[]]) u = namesAt nm u := by
 unfold namesAt
 rw [List.getD_eq_getElem?_getD, List.getD_eq_getElem?_getD, List.getElem?_append]
 split
 ·rfl
 ·rename_i h
  rw [List.getElem?_eq_none (by omega : nm.length ≤ u)]
  rcases Nat.eq_zero_or_pos (u - nm.length) with h0 | h0
  ·rw [h0]; rfl
  ·rw [List.getElem?_eq_none (by simp; omega)]
theorem grw_decl (nm : Nm) (s : Nat) (x : List UInt8) : Grw nm (decl nm s x).1 := by
 refine ⟨by simp [decl], fun u => ?_⟩
 unfold decl
 rw [namesAt_set]
 split
 ·rename_i h
  rw [h.1]
  exact List.prefix_append _ _
 ·exact List.prefix_refl _
theorem grw_sets (nm : Nm) (ch : List Nat) (x : List UInt8) : Grw nm (sets nm ch x).1 := by
 unfold sets
 split
 ·exact Grw.refl _
 ·exact grw_decl _ _ _
theorem grw_open (nm : Nm) : Grw nm (nm ++ [[]]) := ⟨by simp, fun u => by rw [namesAt_open]; exact List.prefix_refl _⟩
theorem wks_grow_of {l : List TP} (ih : ∀ k ∈ l, ∀ ch nm, Grw nm (wk k ch nm).nm) : ∀ ch nm, Grw nm (wks l ch nm).nm := by
 induction l with
 | nil => exact fun ch nm => Grw.refl nm
 | cons k l ihl => exact fun ch nm => (ih k (List.mem_cons_self ..) ch nm).trans (ihl (fun k hk => ih k (List.mem_cons_of_mem _ hk)) ch _)
theorem wkc_grow_of {l : List TP} (ih : ∀ k ∈ l, ∀ ch nm, Grw nm (wk k ch nm).nm) : ∀ ch nm, Grw nm (wkc l ch nm).nm := by
 induction l with
 | nil => exact fun ch nm => Grw.refl nm
 | cons k l ihl =>
  intro ch nm
  rw [wkc]
  split
  ·exact (grw_open nm).trans (ih k (List.mem_cons_self ..) _ _)
  ·exact (ih k (List.mem_cons_self ..) ch nm).trans (ihl (fun k hk => ih k (List.mem_cons_of_mem _ hk)) ch _)
theorem wkr_grow_of {l : List TP} (ih : ∀ k ∈ l, ∀ ch nm, Grw nm (wk k ch nm).nm) (x : List UInt8) : ∀ ch nm, Grw nm (wkr l x ch nm).1.nm := by
 induction l with
 | nil => exact fun ch nm => Grw.refl nm
 | cons k l ihl =>
  intro ch nm
  rw [wkr]
  split
  ·exact (grw_sets nm ch x).trans (ih k (List.mem_cons_self ..) _ _)
  ·exact (ih k (List.mem_cons_self ..) ch nm).trans (ihl (fun k hk => ih k (List.mem_cons_of_mem _ hk)) ch _)
theorem wk_grow : ∀ (t : TP) (ch : List Nat) (nm : Nm), Grw nm (wk t ch nm).nm := by
 refine TP.ind fun ⟨o, x, n, a, ks, c⟩ ih ch nm => ?_
 rw [wk]
 have hs := wks_grow_of ih
 split
 ·exact hs ch nm
 split
 ·exact (grw_sets nm ch x).trans (hs ch _)
 split
 ·exact (grw_decl nm _ x).trans (hs ch _)
 split
 ·exact (grw_open nm).trans (hs _ _)
 split
 ·exact (grw_open nm).trans (hs _ _)
 split
 ·exact wkr_grow_of ih x ch nm
 split
 ·exact wkc_grow_of ih ch nm
 ·exact hs ch nm
theorem wks_grow (l : List TP) : ∀ ch nm, Grw nm (wks l ch nm).nm := wks_grow_of fun k _ => wk_grow k
def Ch (nm : Nm) (ch : List Nat) : Prop := ch ≠ [] ∧ ∀ s ∈ ch, s < nm.length
theorem Ch.grow {nm nm' : Nm} {ch : List Nat} (h : Ch nm ch) (g : Grw nm nm') : Ch nm' ch := ⟨h.1, fun s hs => Nat.lt_of_lt_of_le (h.2 s hs) g.1⟩
theorem Ch.one (nm : Nm) : Ch (nm ++ [[]]) [nm.length] := ⟨by simp, fun s hs => by simp at hs; subst hs; simp⟩
theorem Ch.more {nm : Nm} {ch : List Nat} (h : Ch nm ch) : Ch (nm ++ [[]]) (nm.length :: ch) := ⟨by simp, fun s hs => by
 rcases List.mem_cons.1 hs with rfl | hs
 ·simp
 ·have := h.2 s hs; simp; omega⟩
theorem Ch.hd {nm : Nm} {ch : List Nat} (h : Ch nm ch) : ch.headD 0 < nm.length := by
 obtain ⟨h1, h2⟩ := h
 cases ch with
 | nil => exact absurd rfl h1
 | cons s r => exact h2 s (List.mem_cons_self ..)
def vis (nm : Nm) (ch : List Nat) (x : List UInt8) : Prop := ∃ s ∈ ch, x ∈ namesAt nm s
theorem fnd_iff (nm : Nm) (ch : List Nat) (x : List UInt8) : (fnd nm ch x).isSome = true ↔ vis nm ch x := by
 induction ch with
 | nil => simp [fnd, vis]
 | cons s r ih =>
  rw [fnd]
  cases h : (namesAt nm s).idxOf? x with
  | some i =>
   refine ⟨fun _ => ⟨s, List.mem_cons_self .., ?_⟩, fun _ => rfl⟩
   rw [List.idxOf?_eq_some_iff] at h
   obtain ⟨h1, h2, _⟩ := h
   rw [← h2]
   exact List.getElem_mem h1
  | none =>
   rw [List.idxOf?_eq_none_iff] at h
   refine ih.trans ⟨fun ⟨u, hu, hx⟩ => ⟨u, List.mem_cons_of_mem _ hu, hx⟩, fun ⟨u, hu, hx⟩ => ?_⟩
   rcases List.mem_cons.1 hu with rfl | hu
   ·exact absurd hx h
   ·exact ⟨u, hu, hx⟩
theorem vis.grow {nm nm' : Nm} {ch : List Nat} {x : List UInt8} (h : vis nm ch x) (g : Grw nm nm') : vis nm' ch x := by
 obtain ⟨s, hs, hx⟩ := h
 exact ⟨s, hs, (g.2 s).subset hx⟩
theorem vis_decl {nm : Nm} {ch : List Nat} (h : Ch nm ch) (x : List UInt8) : vis (decl nm (ch.headD 0) x).1 ch x := by
 have hh := h.hd
 refine ⟨ch.headD 0, ?_, ?_⟩
 ·obtain ⟨h1, _⟩ := h
  cases ch with
  | nil => exact absurd rfl h1
  | cons s r => exact List.mem_cons_self ..
 ·unfold decl
  rw [namesAt_set, if_pos ⟨rfl, hh⟩]
  simp
theorem vis_sets {nm : Nm} {ch : List Nat} (h : Ch nm ch) (x : List UInt8) : vis (sets nm ch x).1 ch x := by
 unfold sets
 cases hf : fnd nm ch x with
 | some p => exact (fnd_iff nm ch x).1 (by rw [hf]; rfl)
 | none => exact vis_decl h x
def Kn (k : List (List UInt8)) (t : TP) (k' : List (List UInt8)) : Prop := ∀ ch nm, Ch nm ch → (∀ x ∈ k, vis nm ch x) → (wk t ch nm).un = false ∧ ∀ x ∈ k', vis (wk t ch nm).nm ch x
def Kns (k : List (List UInt8)) (l : List TP) (k' : List (List UInt8)) : Prop := ∀ ch nm, Ch nm ch → (∀ x ∈ k, vis nm ch x) → (wks l ch nm).un = false ∧ ∀ x ∈ k', vis (wks l ch nm).nm ch x
theorem Kns.nil (k : List (List UInt8)) : Kns k [] k := fun _ _ _ h => ⟨rfl, h⟩
theorem Kns.cons {k k1 k2 : List (List UInt8)} {t : TP} {l : List TP} (h : Kn k t k1) (hl : Kns k1 l k2) : Kns k (t :: l) k2 := fun ch nm hc hv => by
 obtain ⟨h1, h2⟩ := h ch nm hc hv
 obtain ⟨h3, h4⟩ := hl ch _ (hc.grow (wk_grow t ch nm)) h2
 exact ⟨by rw [wks, WR.cat, h1, h3]; rfl, h4⟩
theorem wks_app (l m : List TP) (ch : List Nat) : ∀ nm, wks (l ++ m) ch nm = (wks l ch nm).cat (wks m ch (wks l ch nm).nm) := by
 induction l with
 | nil => intro nm; simp [wks, WR.cat]
 | cons k l ih =>
  intro nm
  rw [List.cons_append, wks, ih, wks]
  simp [WR.cat, Bool.or_assoc]
theorem Kns.app {k k1 k2 : List (List UInt8)} {l m : List TP} (h : Kns k l k1) (hm : Kns k1 m k2) : Kns k (l ++ m) k2 := fun ch nm hc hv => by
 obtain ⟨h1, h2⟩ := h ch nm hc hv
 obtain ⟨h3, h4⟩ := hm ch _ (hc.grow (wks_grow l ch nm)) h2
 rw [wks_app]
 exact ⟨by rw [WR.cat, h1, h3]; rfl, h4⟩
theorem Kns.one {k k1 : List (List UInt8)} {t : TP} (h : Kn k t k1) : Kns k [t] k1 := Kns.cons h (Kns.nil _)
theorem Kns.weak {k k' k2 k3 : List (List UInt8)} {l : List TP} (h : Kns k l k2) (h1 : ∀ x ∈ k, x ∈ k') (h2 : ∀ x ∈ k3, x ∈ k2) : Kns k' l k3 := fun ch nm hc hv => by
 obtain ⟨h3, h4⟩ := h ch nm hc fun x hx => hv x (h1 x hx)
 exact ⟨h3, fun x hx => h4 x (h2 x hx)⟩
theorem Kn.weak {k k' k2 k3 : List (List UInt8)} {t : TP} (h : Kn k t k2) (h1 : ∀ x ∈ k, x ∈ k') (h2 : ∀ x ∈ k3, x ∈ k2) : Kn k' t k3 := fun ch nm hc hv => by
 obtain ⟨h3, h4⟩ := h ch nm hc fun x hx => hv x (h1 x hx)
 exact ⟨h3, fun x hx => h4 x (h2 x hx)⟩
def plainOp (o : Int) (x : List UInt8) : Prop := o ≠ 10 ∧ o ≠ 11 ∧ o ≠ 49 ∧ ¬ (o = 52 ∧ x ≠ []) ∧ ¬ (o = 54 ∧ x ≠ []) ∧ o ≠ 35 ∧ o ≠ 24 ∧ o ≠ 25 ∧ ¬ (o = 41 ∧ x ≠ []) ∧ o ≠ 32 ∧ o ≠ 33 ∧ o ≠ 34
instance (o : Int) (x : List UInt8) : Decidable (plainOp o x) := by unfold plainOp; infer_instance
theorem wk_plain {o n : Int} {x : List UInt8} {a : Option Addr} {ks : List TP} {c : Nat} (h : plainOp o x) (ch : List Nat) (nm : Nm) : wk ⟨o, x, n, a, ks, c⟩ ch nm = wks ks ch nm := by
 obtain ⟨h1, h2, h3, h4, h5, h6, h7, h8, h9, h10, h11, h12⟩ := h
 rw [wk, if_neg h1, if_neg (by simp only [not_or]; exact ⟨h2, h3, h4⟩), if_neg h5, if_neg h6, if_neg (by simp only [not_or]; exact ⟨h7, h8⟩), if_neg h9, if_neg (by simp only [not_or]; exact ⟨h10, h11, h12⟩)]
theorem Kn.plain {k k' : List (List UInt8)} {o n : Int} {x : List UInt8} {a : Option Addr} {ks : List TP} {c : Nat} (ho : plainOp o x) (h : Kns k ks k') : Kn k ⟨o, x, n, a, ks, c⟩ k' := fun ch nm hc hv => by
 rw [wk_plain ho]
 exact h ch nm hc hv
theorem Kn.loc {k : List (List UInt8)} {n : Int} {x : List UInt8} {a : Option Addr} {c : Nat} (hx : x ∈ k) : Kn k ⟨10, x, n, a, [], c⟩ k := fun ch nm hc hv => by
 have h := (fnd_iff nm ch x).2 (hv x hx)
 refine ⟨?_, hv⟩
 rw [wk, if_pos rfl]
 show ((fnd nm ch x).isNone || false) = false
 cases hf : fnd nm ch x with
 | none => rw [hf] at h; cases h
 | some p => rfl
theorem Kn.set {k k' : List (List UInt8)} {o n : Int} {x : List UInt8} {a : Option Addr} {ks : List TP} {c : Nat} (ho : o = 11 ∨ o = 49 ∨ (o = 52 ∧ x ≠ [])) (h : Kns (x :: k) ks k') : Kn k ⟨o, x, n, a, ks, c⟩ k' := fun ch nm hc hv => by
 rw [wk, if_neg (by omega), if_pos ho]
 exact h ch _ (hc.grow (grw_sets nm ch x)) fun y hy => by
  rcases List.mem_cons.1 hy with rfl | hy
  ·exact vis_sets hc _
  ·exact (hv y hy).grow (grw_sets nm ch x)
theorem Kn.par {k k' : List (List UInt8)} {n : Int} {x : List UInt8} {a : Option Addr} {ks : List TP} {c : Nat} (hx : x ≠ []) (h : Kns (x :: k) ks k') : Kn k ⟨54, x, n, a, ks, c⟩ k' := fun ch nm hc hv => by
 rw [wk, if_neg (by omega), if_neg (by omega), if_pos ⟨rfl, hx⟩]
 exact h ch _ (hc.grow (grw_decl nm _ x)) fun y hy => by
  rcases List.mem_cons.1 hy with rfl | hy
  ·exact vis_decl hc _
  ·exact (hv y hy).grow (grw_decl nm _ x)
theorem Kn.blk {k k' : List (List UInt8)} {o n : Int} {x : List UInt8} {a : Option Addr} {ks : List TP} {c : Nat} (ho : o = 24 ∨ o = 25) (h : Kns k ks k') : Kn k ⟨o, x, n, a, ks, c⟩ k := fun ch nm hc hv => by
 rw [wk, if_neg (by omega), if_neg (by omega), if_neg (by omega), if_neg (by omega), if_pos ho]
 refine ⟨(h _ _ hc.more fun y hy => ?_).1, fun y hy => ((hv y hy).grow (grw_open nm)).grow (wks_grow ks _ _)⟩
 obtain ⟨s, hs, hx⟩ := (hv y hy).grow (grw_open nm)
 exact ⟨s, List.mem_cons_of_mem _ hs, hx⟩
theorem Kn.dfn {k k' : List (List UInt8)} {n : Int} {x : List UInt8} {a : Option Addr} {ks : List TP} {c : Nat} (h : Kns [] ks k') : Kn k ⟨35, x, n, a, ks, c⟩ k := fun ch nm _ hv => by
 rw [wk, if_neg (by omega), if_neg (by omega), if_neg (by omega), if_pos rfl]
 exact ⟨(h _ _ (Ch.one nm) fun y hy => by cases hy).1, fun y hy => ((hv y hy).grow (grw_open nm)).grow (wks_grow ks _ _)⟩
theorem wkc_snoc (l : List TP) (s : TP) (ch : List Nat) : ∀ nm, wkc (l ++ [s]) ch nm = (wks l ch nm).cat (wk s [(wks l ch nm).nm.length] ((wks l ch nm).nm ++ [[]])) := by
 induction l with
 | nil => intro nm; simp [wkc, wks, WR.cat]
 | cons k l ih =>
  intro nm
  rw [List.cons_append, wkc, if_neg (by simp), ih, wks]
  simp [WR.cat, Bool.or_assoc]
theorem wkr_snoc (l : List TP) (s : TP) (x : List UInt8) (ch : List Nat) : ∀ nm, wkr (l ++ [s]) x ch nm = ((wks l ch nm).cat (wk s ch (sets (wks l ch nm).nm ch x).1), (sets (wks l ch nm).nm ch x).2) := by
 induction l with
 | nil => intro nm; simp [wkr, wks, WR.cat]
 | cons k l ih =>
  intro nm
  rw [List.cons_append, wkr, if_neg (by simp), ih, wks]
  simp [WR.cat, Bool.or_assoc]
theorem Kn.cls {k k1 k2 : List (List UInt8)} {o n : Int} {x : List UInt8} {a : Option Addr} {ks : List TP} {s : TP} {c : Nat} (ho : o = 32 ∨ o = 33 ∨ o = 34) (h : Kns k ks k1) (hs : Kn [] s k2) : Kn k ⟨o, x, n, a, ks ++ [s], c⟩ k1 := fun ch nm hc hv => by
 rw [wk, if_neg (by omega), if_neg (by omega), if_neg (by omega), if_neg (by omega), if_neg (by omega), if_neg (by omega), if_pos ho, wkc_snoc]
 obtain ⟨h1, h2⟩ := h ch nm hc hv
 refine ⟨?_, fun y hy => ((h2 y hy).grow (grw_open _)).grow (wk_grow s _ _)⟩
 rw [WR.cat, h1, (hs _ _ (Ch.one _) fun y hy => by cases hy).1]
 rfl
theorem Kn.res {k k1 k2 : List (List UInt8)} {n : Int} {x : List UInt8} {a : Option Addr} {ks : List TP} {s : TP} {c : Nat} (hx : x ≠ []) (h : Kns k ks k1) (hs : Kn (x :: k1) s k2) : Kn k ⟨41, x, n, a, ks ++ [s], c⟩ k2 := fun ch nm hc hv => by
 rw [wk, if_neg (by omega), if_neg (by omega), if_neg (by omega), if_neg (by omega), if_neg (by omega), if_pos ⟨rfl, hx⟩, wkr_snoc]
 obtain ⟨h1, h2⟩ := h ch nm hc hv
 have hc1 := hc.grow (wks_grow ks ch nm)
 obtain ⟨h3, h4⟩ := hs ch (sets (wks ks ch nm).nm ch x).1 (hc1.grow (grw_sets _ ch x)) fun y hy => by
  rcases List.mem_cons.1 hy with rfl | hy
  ·exact vis_sets hc1 _
  ·exact (h2 y hy).grow (grw_sets _ ch x)
 exact ⟨by rw [WR.pre, WR.cat, h1, h3]; rfl, h4⟩
def PlOk (nm : Nm) (pl : List Pl) : Prop := ∀ p ∈ pl, p.1 < nm.length ∧ p.2 < (namesAt nm p.1).length
theorem PlOk.grow {nm nm' : Nm} {pl : List Pl} (h : PlOk nm pl) (g : Grw nm nm') : PlOk nm' pl := fun p hp => ⟨Nat.lt_of_lt_of_le (h p hp).1 g.1, Nat.lt_of_lt_of_le (h p hp).2 (g.2 p.1).length_le⟩
theorem PlOk.cons {nm : Nm} {p : Pl} {pl : List Pl} (h1 : p.1 < nm.length ∧ p.2 < (namesAt nm p.1).length) (h : PlOk nm pl) : PlOk nm (p :: pl) := fun q hq => by
 rcases List.mem_cons.1 hq with rfl | hq
 ·exact h1
 ·exact h q hq
theorem PlOk.app {nm : Nm} {l m : List Pl} (h : PlOk nm l) (k : PlOk nm m) : PlOk nm (l ++ m) := fun p hp => (List.mem_append.1 hp).elim (h p) (k p)
theorem fnd_ok {nm : Nm} {ch : List Nat} (hc : ∀ s ∈ ch, s < nm.length) {x : List UInt8} {p : Pl} (h : fnd nm ch x = some p) : p.1 < nm.length ∧ p.2 < (namesAt nm p.1).length := by
 induction ch with
 | nil => cases h
 | cons s r ih =>
  rw [fnd] at h
  cases hi : (namesAt nm s).idxOf? x with
  | some i =>
   rw [hi] at h
   obtain rfl := Option.some.inj h
   rw [List.idxOf?_eq_some_iff] at hi
   exact ⟨hc s (List.mem_cons_self ..), hi.1⟩
  | none =>
   rw [hi] at h
   exact ih (fun s hs => hc s (List.mem_cons_of_mem _ hs)) h
theorem decl_ok {nm : Nm} {s : Nat} (hs : s < nm.length) (x : List UInt8) : (decl nm s x).2.1 < (decl nm s x).1.length ∧ (decl nm s x).2.2 < (namesAt (decl nm s x).1 (decl nm s x).2.1).length := by
 unfold decl
 dsimp only
 rw [namesAt_set, if_pos ⟨rfl, hs⟩]
 simp [hs]
theorem sets_ok {nm : Nm} {ch : List Nat} (hc : Ch nm ch) (x : List UInt8) : (sets nm ch x).2.1 < (sets nm ch x).1.length ∧ (sets nm ch x).2.2 < (namesAt (sets nm ch x).1 (sets nm ch x).2.1).length := by
 unfold sets
 cases hf : fnd nm ch x with
 | some p => exact fnd_ok hc.2 hf
 | none => exact decl_ok hc.hd x
def Good (t : TP) : Prop := ∀ ch nm, Ch nm ch → (wk t ch nm).un = false → PlOk (wk t ch nm).nm (wk t ch nm).pl
theorem goods {l : List TP} (ih : ∀ k ∈ l, Good k) : ∀ ch nm, Ch nm ch → (wks l ch nm).un = false → PlOk (wks l ch nm).nm (wks l ch nm).pl := by
 induction l with
 | nil => exact fun ch nm _ _ p hp => by cases hp
 | cons k l ihl =>
  intro ch nm hc hu
  rw [wks, WR.cat] at hu
  simp only [Bool.or_eq_false_iff] at hu
  have hg := wks_grow l ch (wk k ch nm).nm
  exact ((ih k (List.mem_cons_self ..) ch nm hc hu.1).grow hg).app (ihl (fun k hk => ih k (List.mem_cons_of_mem _ hk)) ch _ (hc.grow (wk_grow k ch nm)) hu.2)
theorem snoc_of {α : Type} {l : List α} (h : l ≠ []) : ∃ m x, l = m ++ [x] := ⟨l.dropLast, l.getLast h, (List.dropLast_concat_getLast h).symm⟩
theorem Good.of {t : TP} (hr : t.op = 41 → t.kids ≠ []) (ih : ∀ k ∈ t.kids, Good k) : Good t := by
 obtain ⟨o, x, n, a, ks, c⟩ := t
 intro ch nm hc
 have hs := goods ih
 rw [wk]
 split
 ·intro hu
  simp only [Bool.or_eq_false_iff] at hu
  refine PlOk.cons ?_ (hs ch nm hc hu.2)
  cases hf : fnd nm ch x with
  | none => rw [hf] at hu; exact absurd hu.1 (by simp)
  | some p =>
   obtain ⟨h1, h2⟩ := fnd_ok hc.2 hf
   have hg := wks_grow ks ch nm
   exact ⟨Nat.lt_of_lt_of_le h1 hg.1, Nat.lt_of_lt_of_le h2 (hg.2 p.1).length_le⟩
 split
 ·intro hu
  obtain ⟨h1, h2⟩ := sets_ok hc x
  have hg := wks_grow ks ch (sets nm ch x).1
  exact PlOk.cons ⟨Nat.lt_of_lt_of_le h1 hg.1, Nat.lt_of_lt_of_le h2 (hg.2 _).length_le⟩ (hs ch _ (hc.grow (grw_sets nm ch x)) hu)
 split
 ·intro hu
  obtain ⟨h1, h2⟩ := decl_ok hc.hd x
  have hg := wks_grow ks ch (decl nm (ch.headD 0) x).1
  exact PlOk.cons ⟨Nat.lt_of_lt_of_le h1 hg.1, Nat.lt_of_lt_of_le h2 (hg.2 _).length_le⟩ (hs ch _ (hc.grow (grw_decl nm _ x)) hu)
 split
 ·exact hs _ _ (Ch.one nm)
 split
 ·exact hs _ _ hc.more
 split
 ·rename_i h41
  obtain ⟨m, s, hms⟩ := snoc_of (hr h41.1)
  have hms : ks = m ++ [s] := hms
  have ihm : ∀ k ∈ m, Good k := fun k hk => ih k (by show k ∈ ks; rw [hms]; simp [hk])
  have ihs : Good s := ih s (by show s ∈ ks; rw [hms]; simp)
  rw [hms, wkr_snoc]
  intro hu
  rw [WR.pre, WR.cat] at hu
  simp only [Bool.or_eq_false_iff] at hu
  have hc1 := hc.grow (wks_grow m ch nm)
  have hg1 := grw_sets (wks m ch nm).nm ch x
  have hg2 := wk_grow s ch (sets (wks m ch nm).nm ch x).1
  obtain ⟨h1, h2⟩ := sets_ok hc1 x
  exact PlOk.cons ⟨Nat.lt_of_lt_of_le h1 hg2.1, Nat.lt_of_lt_of_le h2 (hg2.2 _).length_le⟩ ((((goods ihm ch nm hc hu.1).grow hg1).grow hg2).app (ihs ch _ (hc1.grow hg1) hu.2))
 split
 ·intro hu
  rcases List.eq_nil_or_concat ks with h0 | ⟨m, s, hms⟩
  ·subst h0
   intro p hp
   cases hp
  ·rw [List.concat_eq_append] at hms
   have ihm : ∀ k ∈ m, Good k := fun k hk => ih k (by show k ∈ ks; rw [hms]; simp [hk])
   have ihs : Good s := ih s (by show s ∈ ks; rw [hms]; simp)
   rw [hms, wkc_snoc] at hu ⊢
   rw [WR.cat] at hu
   simp only [Bool.or_eq_false_iff] at hu
   have hg2 := wk_grow s [(wks m ch nm).nm.length] ((wks m ch nm).nm ++ [[]])
   exact (((goods ihm ch nm hc hu.1).grow (grw_open _)).grow hg2).app (ihs _ _ (Ch.one _) hu.2)
 ·exact hs ch nm hc
end Go.Tree
namespace Go.Scan
set_option maxRecDepth 20000
def opL : List (List UInt8) := [[43], [45], [42], [47], [37], [61, 61], [60], [60, 61], [62], [62, 61], [60, 61, 62], [61, 61, 61], [60, 60], [91, 93], [91, 93, 61], [46, 46]]
def ops : List UInt8 := [43, 32, 45, 32, 42, 32, 47, 32, 37, 32, 61, 61, 32, 60, 32, 60, 61, 32, 62, 32, 62, 61, 32, 60, 61, 62, 32, 61, 61, 61, 32, 60, 60, 32, 91, 93, 32, 91, 93, 61, 32, 46, 46]
def hd (s : List UInt8) : UInt8 := s.headD 0
def iwB (s : List UInt8) : Bool := s.all wrd && !s.isEmpty && decide (s.length ≤ 40) && !dig (hd s)
def endB (s : List UInt8) : Bool := s.getLast? == some 63 || s.getLast? == some 33
def bareS (s : List UInt8) : List UInt8 := if endB s then s.dropLast else s
def inB (s : List UInt8) : Bool := iwB (bareS s) && sml (hd (bareS s)) && decide (s.length ≤ 40)
def icB (s : List UInt8) : Bool := iwB s && !sml (hd s)
def iiB (s : List UInt8) : Bool := decide (1 < s.length) && hd s == 64 && iwB s.tail && sml (hd s.tail) && decide (s.length ≤ 40)
def setB (s : List UInt8) : Bool := s.getLast? == some 61 && iwB s.dropLast && sml (hd s.dropLast) && decide (s.length ≤ 40)
end Go.Scan
namespace Go.Tree
open Go.Scan
set_option maxRecDepth 20000
def loB (s : List UInt8) : Bool := inB s && !kwB s && !endB s
def naB (s : List UInt8) : Bool := inB s && !kwB s
def meB (s : List UInt8) : Bool := opL.contains s || inB s || setB s
inductive Ro where
 | ex | arg | blk | par | res | ens | inn (k : Bool) | els | pat (k : Bool) | pre | use | top
def parOk : Int → List (List UInt8) → List TP → Prop
 | _, _, [] => True
 | k, us, p :: ps => k ≤ p.n ∧ p.n ≤ 3 ∧ ¬ (p.n = k ∧ 2 ≤ k) ∧ p.name ∉ us ∧ parOk p.n (if p.name = [] then us else p.name :: us) ps
def pathT (t : TP) : Prop := t.op = 14 ∨ t.op = 15 ∧ ∃ k, t.kids = [k] ∧ k.op = 14
def constT (t : TP) : Prop := t.op = 4 ∨ t.op = 5 ∨ t.op = 6 ∨ t.op = 0 ∨ t.op = 1 ∨ t.op = 2 ∨ t.op = 10 ∨ pathT t
def opS : List UInt8 → Bool := fun s => opL.contains s
def ix1 : List UInt8 := [91, 93]
def ix2 : List UInt8 := [91, 93, 61]
inductive V : Ro → TP → Prop
 | bare {o a c} (h : o = 0 ∨ o = 1 ∨ o = 2 ∨ o = 3 ∨ o = 39) : V .ex ⟨o, [], 0, a, [], c⟩
 | int {n a c} (h : -1000000000000000 ≤ n ∧ n ≤ 1000000000000000) : V .ex ⟨4, [], n, a, [], c⟩
 | str {x a c} (h : x.length ≤ 2000) : V .ex ⟨5, x, 0, a, [], c⟩
 | sym {x a c} (h : meB x = true ∨ icB x = true ∨ iiB x = true) : V .ex ⟨6, x, 0, a, [], c⟩
 | dstr1 {a c s} (h : V .ex s) (hs : s.op = 26) : V .ex ⟨7, [], 0, a, [s], c⟩
 | dstr3 {a c s x y ax ay cx cy} (h : V .ex s) (hs : s.op = 26) (hx : x ≠ [] ∧ x.length ≤ 2000) (hy : y ≠ [] ∧ y.length ≤ 2000) : V .ex ⟨7, [], 0, a, [⟨5, x, 0, ax, [], cx⟩, s, ⟨5, y, 0, ay, [], cy⟩], c⟩
 | args {o a c l} (ho : o = 8 ∨ o = 21) (h : ∀ k ∈ l, V .arg k) : V .ex ⟨o, [], 0, a, l, c⟩
 | hash {a c l} (h2 : l.length % 2 = 0) (h : ∀ k ∈ l, V .ex k) : V .ex ⟨9, [], 0, a, l, c⟩
 | loc {x a c} (h : loB x = true) : V .ex ⟨10, x, 0, a, [], c⟩
 | setl {x a c k} (h : loB x = true) (hk : V .ex k) : V .ex ⟨11, x, 0, a, [k], c⟩
 | ivar {x a c} (h : iiB x = true) : V .ex ⟨12, x, 0, a, [], c⟩
 | seti {x a c k} (h : iiB x = true) (hk : V .ex k) : V .ex ⟨13, x, 0, a, [k], c⟩
 | const {x a c} (h : icB x = true) : V .ex ⟨14, x, 0, a, [], c⟩
 | scope {o x a c k} (ho : o = 15 ∨ o = 16) (h : icB x = true) (hk : V .ex k) : V .ex ⟨o, x, 0, a, [k], c⟩
 | cop {x a c k l} (h : opS x = true) (hk : V .ex k) (hl : ∀ k ∈ l, V .ex k) (h1 : 1 ≤ l.length) (h2 : x = ix2 → 2 ≤ l.length) (h3 : x ≠ ix1 → x ≠ ix2 → l.length = 1) : V .ex ⟨17, x, 0, a, k :: l, c⟩
 | cset {x a c k q} (h : meB x = true) (ho : opS x = false) (he : x.getLast? = some 61) (hk : V .ex k) (hq : V .ex q) : V .ex ⟨17, x, 0, a, [k, q], c⟩
 | call {x n a c k l b} (h : meB x = true) (ho : opS x = false) (he : x.getLast? ≠ some 61) (hn : n = 0 ∨ n = 1) (hk : V .ex k) (hl : ∀ k ∈ l, V .arg k) (hb : ∀ k ∈ b, V .blk k) (h1 : b.length ≤ 1) : V .ex ⟨17, x, n, a, k :: (l ++ b), c⟩
 | fcall {x a c l b} (h : naB x = true) (hl : ∀ k ∈ l, V .arg k) (hb : ∀ k ∈ b, V .blk k) (h1 : b.length ≤ 1) : V .ex ⟨18, x, 0, a, l ++ b, c⟩
 | super {a c l b} (hl : ∀ k ∈ l, V .arg k) (hb : ∀ k ∈ b, V .blk k) (h1 : b.length ≤ 1) : V .ex ⟨19, [], 0, a, l ++ b, c⟩
 | zsup {a c} : V .ex ⟨20, [], 0, a, [], c⟩
 | lam {a c l s} (hl : ∀ k ∈ l, V .par k) (hp : parOk 0 [] l) (hs : V .ex s) (h : s.op = 26) : V .ex ⟨25, [], 0, a, l ++ [s], c⟩
 | seq {a c l} (h : ∀ k ∈ l, V .ex k) : V .ex ⟨26, [], 0, a, l, c⟩
 | iff {a c k s q} (hk : V .ex k) (hs : V .ex s) (hso : s.op = 26) (hq : V .ex q) (hqo : q.op = 26) : V .ex ⟨27, [], 0, a, [k, s, q], c⟩
 | whil {o a c k s} (ho : o = 28 ∨ o = 34) (hk : V .ex k) (hs : V .ex s) (hso : s.op = 26) : V .ex ⟨o, [], 0, a, [k, s], c⟩
 | and {o a c k q} (ho : o = 29 ∨ o = 30) (hk : V .ex k) (hq : V .ex q) : V .ex ⟨o, [], 0, a, [k, q], c⟩
 | not {a c k} (hk : V .ex k) : V .ex ⟨31, [], 0, a, [k], c⟩
 | cls0 {x a c s} (h : icB x = true) (hs : V .ex s) (hso : s.op = 26) : V .ex ⟨32, x, 0, a, [s], c⟩
 | cls1 {x a c k s} (h : icB x = true) (hk : V .ex k) (hs : V .ex s) (hso : s.op = 26) : V .ex ⟨32, x, 1, a, [k, s], c⟩
 | modu {x a c s} (h : icB x = true) (hs : V .ex s) (hso : s.op = 26) : V .ex ⟨33, x, 0, a, [s], c⟩
 | dfn {x n a c l s} (h : meB x = true) (hn : n = 0 ∨ n = 1) (hl : ∀ k ∈ l, V .par k) (hp : parOk 0 [] l) (hs : V .ex s) (hso : s.op = 26) : V .ex ⟨35, x, n, a, l ++ [s], c⟩
 | ret {o a c l} (ho : o = 36 ∨ o = 37 ∨ o = 38) (h1 : l.length ≤ 1) (h : ∀ k ∈ l, V .ex k) : V .ex ⟨o, [], 0, a, l, c⟩
 | begin {a c s l e} (hs : V .ex s) (hso : s.op = 26) (hl : ∀ k ∈ l, V .res k) (he : ∀ k ∈ e, V .ens k) (h1 : e.length ≤ 1) (h2 : 1 ≤ l.length + e.length) : V .ex ⟨40, [], 0, a, s :: (l ++ e), c⟩
 | alias {x y a c ay cy} (h : meB x = true) (hy : meB y = true) : V .ex ⟨43, x, 0, a, [⟨6, y, 0, ay, [], cy⟩], c⟩
 | undef {x a c} (h : meB x = true) : V .ex ⟨44, x, 0, a, [], c⟩
 | cas {d n a c k l e} (hn : n = if d then 1 else 0) (hk : V .ex k) (hl : ∀ k ∈ l, V (.inn d) k) (h1 : 1 ≤ l.length) (he : ∀ k ∈ e, V .els k) (h2 : e.length ≤ 1) : V .ex ⟨46, [], n, a, k :: (l ++ e), c⟩
 | argx {t} (h : V .ex t) : V .arg t
 | splat {a c k} (h : V .ex k) : V .arg ⟨22, [], 0, a, [k], c⟩
 | bpass {a c k} (h : V .ex k) : V .blk ⟨23, [], 0, a, [k], c⟩
 | block {a c l s} (hl : ∀ k ∈ l, V .par k) (hp : parOk 0 [] l) (hs : V .ex s) (h : s.op = 26) : V .blk ⟨24, [], 0, a, l ++ [s], c⟩
 | par0 {a c} : V .par ⟨54, [], 2, a, [], c⟩
 | parn {x n a c} (h : loB x = true) (hn : n = 0 ∨ n = 2 ∨ n = 3) : V .par ⟨54, x, n, a, [], c⟩
 | par1 {x a c k} (h : loB x = true) (hk : V .ex k) : V .par ⟨54, x, 1, a, [k], c⟩
 | res {x a c l s} (h : x = [] ∨ loB x = true) (hl : ∀ k ∈ l, V .ex k) (hs : V .ex s) (hso : s.op = 26) : V .res ⟨41, x, 0, a, l ++ [s], c⟩
 | ens {a c s} (hs : V .ex s) (hso : s.op = 26) : V .ens ⟨42, [], 0, a, [s], c⟩
 | els {a c s} (hs : V .ex s) (hso : s.op = 26) : V .els ⟨55, [], 0, a, [s], c⟩
 | inn {d a c p s} (hp : V (.pat d) p) (hs : V .ex s) (hso : s.op = 26) : V (.inn d) ⟨47, [], 0, a, [p, s], c⟩
 | ing {a c p k s} (hp : V (.pat true) p) (hk : V .ex k) (hs : V .ex s) (hso : s.op = 26) : V (.inn true) ⟨47, [], 1, a, [p, k, s], c⟩
 | pval0 {a c k} (hk : V .ex k) : V (.pat false) ⟨48, [], 0, a, [k], c⟩
 | pval1 {a c k} (hk : V .ex k) (hc : constT k) : V (.pat true) ⟨48, [], 0, a, [k], c⟩
 | palt0 {a c l} (hl : ∀ k ∈ l, V (.pat false) k) (ho : ∀ k ∈ l, k.op = 48) (h2 : 2 ≤ l.length) : V (.pat false) ⟨53, [], 0, a, l, c⟩
 | palt1 {a c l} (hl : ∀ k ∈ l, V (.pat true) k) (h2 : 2 ≤ l.length) : V (.pat true) ⟨53, [], 0, a, l, c⟩
 | pbind {x a c} (h : loB x = true) (hx : x ≠ [95]) : V (.pat true) ⟨49, x, 0, a, [], c⟩
 | pany {a c} : V (.pat true) ⟨50, [], 0, a, [], c⟩
 | parr {a c l} (hl : ∀ k ∈ l, k.op ≠ 52 → V (.pat true) k) (hr : ∀ k ∈ l, k.op = 52 → V .pre k) (h1 : (l.filter fun k => k.op == 52).length ≤ 1) : V (.pat true) ⟨51, [], 0, a, l, c⟩
 | prest {x a c} (h : x = [] ∨ loB x = true) : V .pre ⟨52, x, 0, a, [], c⟩
 | use {a c k} (hk : V .ex k) (hp : pathT k) : V .use ⟨45, [], 0, a, [k], c⟩
 | top {a c l} (h : ∀ k ∈ l, k.op ≠ 45 → V .ex k) (hu : ∀ k ∈ l, k.op = 45 → V .use k) : V .top ⟨26, [], 0, a, l, c⟩
theorem lo_ne {x : List UInt8} (h : loB x = true) : x ≠ [] := fun e => by rw [e] at h; exact absurd h (by decide)
def Ro.inner : Ro → Prop
 | .use => False
 | .top => False
 | _ => True
theorem V.opx {r : Ro} {t : TP} (h : V r t) (hr : r.inner) (ha : r ≠ .arg) : t.op ≠ 45 := by
 cases h <;> first | exact hr.elim | (intro e; dsimp only at e; omega) | exact absurd rfl ha
theorem arg_cases {t : TP} (h : V .arg t) : V .ex t ∨ ∃ a c k, V .ex k ∧ t = ⟨22, [], 0, a, [k], c⟩ := by
 cases h with
 | argx h => exact .inl h
 | splat h => exact .inr ⟨_, _, _, h, rfl⟩
theorem V.op {r : Ro} {t : TP} (h : V r t) (hr : r.inner) : t.op ≠ 45 := by
 by_cases ha : r = .arg
 ·subst ha
  rcases arg_cases h with h | ⟨a, c, k, _, rfl⟩
  ·exact h.opx trivial (by intro e; cases e)
  ·show ¬ (22 : Int) = 45
   decide
 ·exact h.opx hr ha
theorem allV {P : TP → Prop} {l m : List TP} (h : ∀ k ∈ l, P k) (h2 : ∀ k ∈ m, P k) : ∀ k ∈ l ++ m, P k := fun k hk => (List.mem_append.1 hk).elim (h k) (h2 k)
theorem allC {P : TP → Prop} {x : TP} {m : List TP} (h : P x) (h2 : ∀ k ∈ m, P k) : ∀ k ∈ x :: m, P k := fun k hk => by
 rcases List.mem_cons.1 hk with rfl | hk
 ·exact h
 ·exact h2 k hk
theorem allN {P : TP → Prop} : ∀ k ∈ ([] : List TP), P k := fun k hk => by cases hk
def In (k : TP) : Prop := ∃ r, Ro.inner r ∧ V r k
theorem In.of {r : Ro} {k : TP} (hr : Ro.inner r) (h : V r k) : In k := ⟨r, hr, h⟩
theorem Ins.of {r : Ro} {l : List TP} (hr : Ro.inner r) (h : ∀ k ∈ l, V r k) : ∀ k ∈ l, In k := fun k hk => ⟨r, hr, h k hk⟩
theorem V.kidsx {r : Ro} {t : TP} (h : V r t) (hr : r ≠ .top) (ha : r ≠ .arg) : ∀ k ∈ t.kids, In k := by
 cases h with
 | bare h => exact allN
 | int h => exact allN
 | str h => exact allN
 | sym h => exact allN
 | dstr1 h hs => exact allC (.of (r := .ex) trivial h) allN
 | dstr3 h hs hx hy => exact allC (.of (r := .ex) trivial (.str hx.2)) (allC (.of (r := .ex) trivial h) (allC (.of (r := .ex) trivial (.str hy.2)) allN))
 | args ho h => exact Ins.of (r := .arg) trivial h
 | hash h2 h => exact Ins.of (r := .ex) trivial h
 | loc h => exact allN
 | setl h hk => exact allC (.of (r := .ex) trivial hk) allN
 | ivar h => exact allN
 | seti h hk => exact allC (.of (r := .ex) trivial hk) allN
 | const h => exact allN
 | scope ho h hk => exact allC (.of (r := .ex) trivial hk) allN
 | cop h hk hl h1 h2 h3 => exact allC (.of (r := .ex) trivial hk) (Ins.of (r := .ex) trivial hl)
 | cset h ho he hk hq => exact allC (.of (r := .ex) trivial hk) (allC (.of (r := .ex) trivial hq) allN)
 | call h ho he hn hk hl hb h1 => exact allC (.of (r := .ex) trivial hk) (allV (Ins.of (r := .arg) trivial hl) (Ins.of (r := .blk) trivial hb))
 | fcall h hl hb h1 => exact allV (Ins.of (r := .arg) trivial hl) (Ins.of (r := .blk) trivial hb)
 | super hl hb h1 => exact allV (Ins.of (r := .arg) trivial hl) (Ins.of (r := .blk) trivial hb)
 | zsup => exact allN
 | lam hl hp hs h => exact allV (Ins.of (r := .par) trivial hl) (allC (.of (r := .ex) trivial hs) allN)
 | seq h => exact Ins.of (r := .ex) trivial h
 | iff hk hs hso hq hqo => exact allC (.of (r := .ex) trivial hk) (allC (.of (r := .ex) trivial hs) (allC (.of (r := .ex) trivial hq) allN))
 | whil ho hk hs hso => exact allC (.of (r := .ex) trivial hk) (allC (.of (r := .ex) trivial hs) allN)
 | and ho hk hq => exact allC (.of (r := .ex) trivial hk) (allC (.of (r := .ex) trivial hq) allN)
 | not hk => exact allC (.of (r := .ex) trivial hk) allN
 | cls0 h hs hso => exact allC (.of (r := .ex) trivial hs) allN
 | cls1 h hk hs hso => exact allC (.of (r := .ex) trivial hk) (allC (.of (r := .ex) trivial hs) allN)
 | modu h hs hso => exact allC (.of (r := .ex) trivial hs) allN
 | dfn h hn hl hp hs hso => exact allV (Ins.of (r := .par) trivial hl) (allC (.of (r := .ex) trivial hs) allN)
 | ret ho h1 h => exact Ins.of (r := .ex) trivial h
 | begin hs hso hl he h1 h2 => exact allC (.of (r := .ex) trivial hs) (allV (Ins.of (r := .res) trivial hl) (Ins.of (r := .ens) trivial he))
 | alias h hy => exact allC (.of (r := .ex) trivial (.sym (.inl hy))) allN
 | undef h => exact allN
 | cas hn hk hl h1 he h2 => exact allC (.of (r := .ex) trivial hk) (allV (Ins.of (r := .inn _) trivial hl) (Ins.of (r := .els) trivial he))
 | argx h => exact absurd rfl ha
 | splat h => exact allC (.of (r := .ex) trivial h) allN
 | bpass h => exact allC (.of (r := .ex) trivial h) allN
 | block hl hp hs h => exact allV (Ins.of (r := .par) trivial hl) (allC (.of (r := .ex) trivial hs) allN)
 | par0 => exact allN
 | parn h hn => exact allN
 | par1 h hk => exact allC (.of (r := .ex) trivial hk) allN
 | res h hl hs hso => exact allV (Ins.of (r := .ex) trivial hl) (allC (.of (r := .ex) trivial hs) allN)
 | ens hs hso => exact allC (.of (r := .ex) trivial hs) allN
 | els hs hso => exact allC (.of (r := .ex) trivial hs) allN
 | inn hp hs hso => exact allC (.of (r := .pat _) trivial hp) (allC (.of (r := .ex) trivial hs) allN)
 | ing hp hk hs hso => exact allC (.of (r := .pat _) trivial hp) (allC (.of (r := .ex) trivial hk) (allC (.of (r := .ex) trivial hs) allN))
 | pval0 hk => exact allC (.of (r := .ex) trivial hk) allN
 | pval1 hk hc => exact allC (.of (r := .ex) trivial hk) allN
 | palt0 hl ho h2 => exact Ins.of (r := .pat _) trivial hl
 | palt1 hl h2 => exact Ins.of (r := .pat _) trivial hl
 | pbind h hx => exact allN
 | pany => exact allN
 | parr hl hr1 h1 =>
  intro k hk
  by_cases h : k.op = 52
  ·exact .of (r := .pre) trivial (hr1 k hk h)
  ·exact .of (r := .pat _) trivial (hl k hk h)
 | prest h => exact allN
 | use hk hp => exact allC (.of (r := .ex) trivial hk) allN
 | top h hu => exact absurd rfl hr
theorem V.kids {r : Ro} {t : TP} (h : V r t) (hr : r ≠ .top) : ∀ k ∈ t.kids, In k := by
 by_cases ha : r = .arg
 ·subst ha
  rcases arg_cases h with h | ⟨a, c, k, hk, rfl⟩
  ·exact h.kidsx (by intro e; cases e) (by intro e; cases e)
  ·exact allC (.of (r := .ex) trivial hk) allN
 ·exact h.kidsx hr ha
theorem In.us {t : TP} (h : In t) : t.us = 0 := by
 revert h
 refine TP.ind (P := fun t => In t → t.us = 0) (fun t ih h => ?_) t
 obtain ⟨r, hr, hv⟩ := h
 have hk := hv.kids (by intro e; subst e; exact hr)
 have hs : ∀ l : List TP, (∀ k ∈ l, k.us = 0) → uss l = 0 := fun l hl => by
  induction l with
  | nil => rfl
  | cons k l ihl => rw [uss, hl k (List.mem_cons_self ..), ihl fun k hk => hl k (List.mem_cons_of_mem _ hk)]
 rw [us_eq, if_neg (hv.op hr), hs _ fun k h => ih k h (hk k h)]
theorem V.top_us {t : TP} (h : V .top t) : t.us = (t.kids.filter fun k => k.op == 45).length := by
 cases h with
 | top h hu =>
  rename_i a c l
  have hl : ∀ m : List TP, (∀ k ∈ m, k ∈ l) → uss m = (m.filter fun k => k.op == 45).length := fun m => by
   induction m with
   | nil => intro _; rfl
   | cons k m ih =>
    intro hm
    have hk := hm k (List.mem_cons_self ..)
    rw [uss, ih fun k h => hm k (List.mem_cons_of_mem _ h), List.filter_cons]
    by_cases ho : k.op = 45
    ·have hv := hu k hk ho
     have : uss k.kids = 0 := by
      have hin := hv.kids (by intro e; cases e)
      have hs : ∀ l : List TP, (∀ k ∈ l, k.us = 0) → uss l = 0 := fun l hl => by
       induction l with
       | nil => rfl
       | cons k l ihl => rw [uss, hl k (List.mem_cons_self ..), ihl fun k hk => hl k (List.mem_cons_of_mem _ hk)]
      exact hs _ fun k h => (hin k h).us
     rw [us_eq, if_pos ho, this]
     simp [ho]
     omega
    ·have hv := h k hk ho
     rw [(In.of (r := .ex) trivial hv).us]
     simp [ho]
  rw [us_eq]
  exact (Nat.zero_add _).trans (hl l fun k h => h)
def hld (o : Int) : Bool := o == 10 || o == 11 || o == 49 || o == 52 || o == 41 || o == 54
def own (o : Int) (x : List UInt8) : Bool := hld o && (!x.isEmpty || o == 10 || o == 11 || o == 49)
def ren (f g x : List UInt8) : List UInt8 := if x = f then g else x
def rename (f g : List UInt8) (o : Int) (x : List UInt8) : List UInt8 := if hld o && x == f && !f.isEmpty then g else x
mutual
def rn (f g : List UInt8) : TP → TP
 | ⟨o, x, n, _, ks, _⟩ => ⟨o, rename f g o x, n, none, rns f g ks, 0⟩
termination_by structural x => x
def rns (f g : List UInt8) : List TP → List TP
 | [] => []
 | k :: ks => rn f g k :: rns f g ks
termination_by structural x => x
end
mutual
def hn : TP → List (List UInt8)
 | ⟨o, x, _, _, ks, _⟩ => (if own o x then [x] else []) ++ hns ks
termination_by structural x => x
def hns : List TP → List (List UInt8)
 | [] => []
 | k :: ks => hn k ++ hns ks
termination_by structural x => x
end
theorem rns_map (f g : List UInt8) (l : List TP) : rns f g l = l.map (rn f g) := by
 induction l with
 | nil => rfl
 | cons k l ih => rw [rns, ih]; rfl
theorem hns_mem {l : List TP} {x : List UInt8} : x ∈ hns l ↔ ∃ k ∈ l, x ∈ hn k := by
 induction l with
 | nil => simp [hns]
 | cons k l ih => rw [hns, List.mem_append, ih]; simp
theorem hns_app (l m : List TP) : hns (l ++ m) = hns l ++ hns m := by
 induction l with
 | nil => rfl
 | cons k l ih => rw [List.cons_append, hns, hns, ih, List.append_assoc]
theorem hn_eq (t : TP) : hn t = (if own t.op t.name then [t.name] else []) ++ hns t.kids := by cases t; rfl
theorem rn_eq (f g : List UInt8) (t : TP) : rn f g t = ⟨t.op, rename f g t.op t.name, t.n, none, rns f g t.kids, 0⟩ := by cases t; rfl
theorem hn_kid {t k : TP} (h : k ∈ t.kids) {x : List UInt8} (hx : x ∈ hn k) : x ∈ hn t := by
 rw [hn_eq, List.mem_append]
 exact .inr (hns_mem.2 ⟨k, h, hx⟩)
theorem hn_self {t : TP} (h : hld t.op = true) (hx : t.name ≠ []) : t.name ∈ hn t := by
 rw [hn_eq, List.mem_append]
 left
 rw [if_pos (by simp [own, h, hx])]
 simp
theorem rn_back (f g : List UInt8) (hf : f ≠ []) (hg : g ≠ []) : ∀ t : TP, g ∉ hn t → rn g f (rn f g t) = t.er := by
 refine TP.ind fun t ih hn0 => ?_
 rw [rn_eq f g, rn_eq g f, er_eq]
 dsimp only
 have hks : rns g f (rns f g t.kids) = ers t.kids := by
  rw [rns_map, rns_map, ers_map, List.map_map]
  exact List.map_congr_left fun k hk => ih k hk fun hx => hn0 (hn_kid hk hx)
 rw [hks]
 have hname : rename g f t.op (rename f g t.op t.name) = t.name := by
  unfold rename
  by_cases ho : hld t.op = true
  ·by_cases hx : t.name = f
   ·simp [ho, hx, hf, hg]
   ·have hne : t.name ≠ g := fun e => by
     refine hn0 ?_
     rw [← e]
     exact hn_self ho (by rw [e]; exact hg)
    simp [ho, hx, hne]
  ·simp [ho]
 rw [hname]
theorem rn_moves (f g : List UInt8) (hfg : f ≠ g) (hf : f ≠ []) : ∀ t : TP, f ∈ hn t → rn f g t ≠ t.er := by
 refine TP.ind fun t ih hx he => ?_
 rw [rn_eq, er_eq] at he
 simp only [TP.mk.injEq] at he
 rw [hn_eq, List.mem_append] at hx
 rcases hx with hx | hx
 ·split at hx
  ·rename_i hc
   simp at hx
   have := he.2.1
   unfold rename at this
   have hh : hld t.op = true := by simp [own] at hc; exact hc.1
   rw [← hx] at this
   simp [hh, hf] at this
   exact hfg this.symm
  ·cases hx
 ·obtain ⟨k, hk, hx⟩ := hns_mem.1 hx
  have h2 := he.2.2.2.2.1
  rw [rns_map, ers_map] at h2
  exact ih k hk hx (List.map_inj_left.1 h2 k hk)
def rnm (f g : List UInt8) (nm : Nm) : Nm := nm.map fun l => l.map (ren f g)
theorem rnm_at (f g : List UInt8) (nm : Nm) (s : Nat) : namesAt (rnm f g nm) s = (namesAt nm s).map (ren f g) := by
 unfold namesAt rnm
 rw [List.getD_eq_getElem?_getD, List.getD_eq_getElem?_getD, List.getElem?_map]
 cases nm[s]? <;> rfl
theorem ren_inj {f g x y : List UInt8} (hx : x ≠ g) (hy : y ≠ g) : ren f g x = ren f g y ↔ x = y := by
 unfold ren
 constructor
 ·intro h
  split at h <;> split at h
  ·rename_i h1 h2; rw [h1, h2]
  ·exact absurd h.symm hy
  ·exact absurd h hx
  ·exact h
 ·intro h; rw [h]
theorem idx_ren {f g x : List UInt8} (hx : x ≠ g) : ∀ l : List (List UInt8), g ∉ l → (l.map (ren f g)).idxOf? (ren f g x) = l.idxOf? x
 | [], _ => rfl
 | y :: l, h => by
  have hy : y ≠ g := fun e => h (by rw [e]; exact List.mem_cons_self ..)
  have hi := idx_ren (f := f) hx l fun e => h (List.mem_cons_of_mem _ e)
  rw [List.map_cons, List.idxOf?_cons, List.idxOf?_cons, hi]
  by_cases he : y = x
  ·rw [he]; simp
  ·have : ren f g y ≠ ren f g x := fun e => he ((ren_inj hy hx).1 e)
   simp [he, this]
def Free (g : List UInt8) (nm : Nm) : Prop := ∀ s, g ∉ namesAt nm s
theorem fnd_ren {f g x : List UInt8} (hx : x ≠ g) {nm : Nm} (hf : Free g nm) : ∀ ch, fnd (rnm f g nm) ch (ren f g x) = fnd nm ch x
 | [] => rfl
 | s :: ch => by
  rw [fnd, fnd, rnm_at, idx_ren hx _ (hf s), fnd_ren hx hf ch]
theorem rnm_len (f g : List UInt8) (nm : Nm) : (rnm f g nm).length = nm.length := by simp [rnm]
theorem decl_ren (f g x : List UInt8) (nm : Nm) (s : Nat) : decl (rnm f g nm) s (ren f g x) = (rnm f g (decl nm s x).1, (decl nm s x).2) := by
 unfold decl
 dsimp only
 rw [rnm_at]
 refine Prod.ext ?_ (by simp)
 show (rnm f g nm).set s _ = rnm f g (nm.set s _)
 unfold rnm
 rw [List.map_set]
 simp
theorem sets_ren {f g x : List UInt8} (hx : x ≠ g) {nm : Nm} (hf : Free g nm) (ch : List Nat) : sets (rnm f g nm) ch (ren f g x) = (rnm f g (sets nm ch x).1, (sets nm ch x).2) := by
 unfold sets
 rw [fnd_ren hx hf]
 cases fnd nm ch x with
 | some p => rfl
 | none => exact decl_ren f g x nm _
theorem Free.decl {g x : List UInt8} (hx : x ≠ g) {nm : Nm} (hf : Free g nm) (s : Nat) : Free g (decl nm s x).1 := fun u => by
 unfold Tree.decl
 rw [namesAt_set]
 split
 ·intro h
  rcases List.mem_append.1 h with h | h
  ·exact hf s h
  ·simp at h
   exact hx h.symm
 ·exact hf u
theorem Free.sets {g x : List UInt8} (hx : x ≠ g) {nm : Nm} (hf : Free g nm) (ch : List Nat) : Free g (sets nm ch x).1 := by
 unfold Tree.sets
 cases fnd nm ch x with
 | some p => exact hf
 | none => exact hf.decl hx _
theorem Free.open {g : List UInt8} {nm : Nm} (hf : Free g nm) : Free g (nm ++ [[]]) := fun u => by rw [namesAt_open]; exact hf u
theorem rnm_open (f g : List UInt8) (nm : Nm) : rnm f g nm ++ [[]] = rnm f g (nm ++ [[]]) := by simp [rnm]
def From (nm : Nm) (l : List (List UInt8)) (nm' : Nm) : Prop := ∀ s, ∀ x ∈ namesAt nm' s, (∃ u, x ∈ namesAt nm u) ∨ x ∈ l
theorem From.refl (nm : Nm) (l : List (List UInt8)) : From nm l nm := fun s _ hx => .inl ⟨s, hx⟩
theorem From.trans {a b c : Nm} {l m k : List (List UInt8)} (h : From a l b) (h2 : From b m c) (hl : ∀ x ∈ l, x ∈ k) (hm : ∀ x ∈ m, x ∈ k) : From a k c := fun s x hx => by
 rcases h2 s x hx with ⟨u, hu⟩ | hx
 ·rcases h u x hu with h | h
  ·exact .inl h
  ·exact .inr (hl x h)
 ·exact .inr (hm x hx)
theorem from_decl (nm : Nm) (s : Nat) (x : List UInt8) : From nm [x] (decl nm s x).1 := fun u y hy => by
 unfold decl at hy
 rw [namesAt_set] at hy
 split at hy
 ·rcases List.mem_append.1 hy with h | h
  ·exact .inl ⟨s, h⟩
  ·exact .inr h
 ·exact .inl ⟨u, hy⟩
theorem from_sets (nm : Nm) (ch : List Nat) (x : List UInt8) : From nm [x] (sets nm ch x).1 := by
 unfold sets
 cases fnd nm ch x with
 | some p => exact From.refl _ _
 | none => exact from_decl _ _ _
theorem from_open (nm : Nm) (l : List (List UInt8)) : From nm l (nm ++ [[]]) := fun u x hx => by rw [namesAt_open] at hx; exact .inl ⟨u, hx⟩
theorem wks_from {l : List TP} (ih : ∀ k ∈ l, ∀ ch nm, From nm (hn k) (wk k ch nm).nm) : ∀ ch nm, From nm (hns l) (wks l ch nm).nm := by
 induction l with
 | nil => exact fun ch nm => From.refl _ _
 | cons k l ihl => exact fun ch nm => (ih k (List.mem_cons_self ..) ch nm).trans (ihl (fun k hk => ih k (List.mem_cons_of_mem _ hk)) ch _) (fun x hx => by rw [hns]; simp [hx]) (fun x hx => by rw [hns]; simp [hx])
theorem wkc_from {l : List TP} (ih : ∀ k ∈ l, ∀ ch nm, From nm (hn k) (wk k ch nm).nm) : ∀ ch nm, From nm (hns l) (wkc l ch nm).nm := by
 induction l with
 | nil => exact fun ch nm => From.refl _ _
 | cons k l ihl =>
  intro ch nm
  rw [wkc]
  split
  ·exact (from_open nm []).trans (ih k (List.mem_cons_self ..) _ _) (fun x hx => by cases hx) (fun x hx => by rw [hns]; simp [hx])
  ·exact (ih k (List.mem_cons_self ..) ch nm).trans (ihl (fun k hk => ih k (List.mem_cons_of_mem _ hk)) ch _) (fun x hx => by rw [hns]; simp [hx]) (fun x hx => by rw [hns]; simp [hx])
theorem wkr_from {l : List TP} (ih : ∀ k ∈ l, ∀ ch nm, From nm (hn k) (wk k ch nm).nm) (x : List UInt8) : ∀ ch nm, From nm (x :: hns l) (wkr l x ch nm).1.nm := by
 induction l with
 | nil => exact fun ch nm => From.refl _ _
 | cons k l ihl =>
  intro ch nm
  rw [wkr]
  split
  ·exact (from_sets nm ch x).trans (ih k (List.mem_cons_self ..) _ _) (fun y hy => by simp at hy; subst hy; simp) (fun y hy => by rw [hns]; simp [hy])
  ·refine (ih k (List.mem_cons_self ..) ch nm).trans (ihl (fun k hk => ih k (List.mem_cons_of_mem _ hk)) ch _) (fun y hy => by rw [hns]; simp [hy]) (fun y hy => ?_)
   rcases List.mem_cons.1 hy with rfl | hy
   ·simp
   ·rw [hns]; simp [hy]
theorem wk_from : ∀ (t : TP) (ch : List Nat) (nm : Nm), From nm (hn t) (wk t ch nm).nm := by
 refine TP.ind fun ⟨o, x, n, a, ks, c⟩ ih ch nm => ?_
 have hs := wks_from (l := ks) ih
 have hx : own o x = true → ∀ y ∈ [x], y ∈ hn ⟨o, x, n, a, ks, c⟩ := fun h y hy => by rw [hn, if_pos h]; exact List.mem_append.2 (.inl hy)
 have hr : ∀ y ∈ hns ks, y ∈ hn ⟨o, x, n, a, ks, c⟩ := fun y hy => by rw [hn]; exact List.mem_append.2 (.inr hy)
 generalize hn ⟨o, x, n, a, ks, c⟩ = L at hx hr ⊢
 have h0 : ∀ y ∈ ([] : List (List UInt8)), y ∈ L := fun y hy => by cases hy
 rw [wk]
 split
 ·exact (From.refl nm []).trans (hs ch nm) h0 hr
 split
 ·rename_i h
  exact (from_sets nm ch x).trans (hs ch _) (hx (by rcases h with h | h | h <;> simp [own, hld, h])) hr
 split
 ·rename_i h
  exact (from_decl nm _ x).trans (hs ch _) (hx (by simp [own, hld, h])) hr
 split
 ·exact (from_open nm []).trans (hs _ _) h0 hr
 split
 ·exact (from_open nm []).trans (hs _ _) h0 hr
 split
 ·rename_i h
  refine (From.refl nm []).trans (wkr_from ih x ch nm) h0 fun y hy => ?_
  rcases List.mem_cons.1 hy with rfl | hy
  ·exact hx (by simp [own, hld, h]) _ (by simp)
  ·exact hr y hy
 split
 ·exact (From.refl nm []).trans (wkc_from ih ch nm) h0 hr
 ·exact (From.refl nm []).trans (hs ch nm) h0 hr
theorem From.free {g : List UInt8} {nm nm' : Nm} {l : List (List UInt8)} (h : From nm l nm') (hf : Free g nm) (hl : g ∉ l) : Free g nm' := fun s hg => by
 rcases h s g hg with ⟨u, hu⟩ | hg
 ·exact hf u hu
 ·exact hl hg
def WR.ren (f g : List UInt8) (r : WR) : WR := ⟨rnm f g r.nm, r.pl, r.un⟩
def Alike (f g : List UInt8) (t : TP) : Prop := g ∉ hn t → ∀ ch nm, Free g nm → wk (rn f g t) ch (rnm f g nm) = (wk t ch nm).ren f g
theorem wks_ren {f g : List UInt8} {l : List TP} (ih : ∀ k ∈ l, Alike f g k) (hg : g ∉ hns l) : ∀ ch nm, Free g nm → wks (rns f g l) ch (rnm f g nm) = (wks l ch nm).ren f g := by
 induction l with
 | nil => exact fun ch nm _ => rfl
 | cons k l ihl =>
  intro ch nm hf
  rw [hns, List.mem_append, not_or] at hg
  rw [rns, wks, wks, ih k (List.mem_cons_self ..) hg.1 ch nm hf]
  show WR.cat _ (wks (rns f g l) ch (rnm f g (wk k ch nm).nm)) = _
  rw [ihl (fun k hk => ih k (List.mem_cons_of_mem _ hk)) hg.2 ch _ ((wk_from k ch nm).free hf hg.1)]
  rfl
theorem rns_empty (f g : List UInt8) (l : List TP) : (rns f g l).isEmpty = l.isEmpty := by cases l <;> rfl
theorem wkc_ren {f g : List UInt8} {l : List TP} (ih : ∀ k ∈ l, Alike f g k) (hg : g ∉ hns l) : ∀ ch nm, Free g nm → wkc (rns f g l) ch (rnm f g nm) = (wkc l ch nm).ren f g := by
 induction l with
 | nil => exact fun ch nm _ => rfl
 | cons k l ihl =>
  intro ch nm hf
  rw [hns, List.mem_append, not_or] at hg
  rw [rns, wkc, wkc, rns_empty, rnm_len, rnm_open]
  split
  ·exact ih k (List.mem_cons_self ..) hg.1 _ _ hf.open
  ·rw [ih k (List.mem_cons_self ..) hg.1 ch nm hf]
   show WR.cat _ (wkc (rns f g l) ch (rnm f g (wk k ch nm).nm)) = _
   rw [ihl (fun k hk => ih k (List.mem_cons_of_mem _ hk)) hg.2 ch _ ((wk_from k ch nm).free hf hg.1)]
   rfl
theorem wkr_ren {f g x : List UInt8} (hx : x ≠ g) {l : List TP} (ih : ∀ k ∈ l, Alike f g k) (hg : g ∉ hns l) : ∀ ch nm, Free g nm → wkr (rns f g l) (ren f g x) ch (rnm f g nm) = ((wkr l x ch nm).1.ren f g, (wkr l x ch nm).2) := by
 induction l with
 | nil => exact fun ch nm _ => rfl
 | cons k l ihl =>
  intro ch nm hf
  rw [hns, List.mem_append, not_or] at hg
  rw [rns, wkr, wkr, rns_empty]
  split
  ·rw [sets_ren hx hf]
   dsimp only
   rw [ih k (List.mem_cons_self ..) hg.1 _ _ (hf.sets hx ch)]
  ·rw [ih k (List.mem_cons_self ..) hg.1 ch nm hf]
   have := ihl (fun k hk => ih k (List.mem_cons_of_mem _ hk)) hg.2 ch _ ((wk_from k ch nm).free hf hg.1)
   show (WR.cat _ (wkr (rns f g l) (ren f g x) ch (rnm f g (wk k ch nm).nm)).1, (wkr (rns f g l) (ren f g x) ch (rnm f g (wk k ch nm).nm)).2) = _
   rw [this]
   rfl
theorem rename_hld {f g : List UInt8} {o : Int} {x : List UInt8} (ho : hld o = true) (hf : f ≠ []) : rename f g o x = ren f g x := by
 unfold rename ren
 by_cases h : x = f <;> simp [ho, h, hf]
theorem rename_no {f g : List UInt8} {o : Int} {x : List UInt8} (ho : hld o = false) : rename f g o x = x := by
 unfold rename
 simp [ho]
theorem ren_nil {f g x : List UInt8} (hf : f ≠ []) (hg : g ≠ []) : ren f g x ≠ [] ↔ x ≠ [] := by
 unfold ren
 split
 ·rename_i h
  rw [h]
  simp [hf, hg]
 ·rfl
theorem wk_ren {f g : List UInt8} (hf : f ≠ []) (hg : g ≠ []) : ∀ t : TP, Alike f g t := by
 refine TP.ind fun ⟨o, x, n, a, ks, c⟩ ih hn0 ch nm hfr => ?_
 rw [hn, List.mem_append, not_or] at hn0
 obtain ⟨hn1, hn2⟩ := hn0
 have ih : ∀ k ∈ ks, Alike f g k := ih
 have hs := wks_ren ih hn2
 rw [rn]
 by_cases ho : hld o = true
 ·rw [rename_hld ho hf]
  have hxg : x ≠ g := fun e => by
   rw [e, if_pos (by simp [own, ho, hg])] at hn1
   simp at hn1
  have hnil := ren_nil (x := x) hf hg
  rw [wk, wk, fnd_ren hxg hfr, sets_ren hxg hfr, decl_ren, rnm_open, rnm_len]
  simp only [hnil]
  split
  ·rw [hs ch nm hfr]; rfl
  split
  ·rw [hs ch _ (hfr.sets hxg ch)]; rfl
  split
  ·rw [hs ch _ (hfr.decl hxg _)]; rfl
  split
  ·exact hs _ _ hfr.open
  split
  ·exact hs _ _ hfr.open
  split
  ·rw [wkr_ren hxg ih hn2 ch nm hfr]; rfl
  split
  ·exact wkc_ren ih hn2 ch nm hfr
  ·exact hs ch nm hfr
 ·have ho2 : hld o = false := by simpa using ho
  rw [rename_no ho2, wk, wk, rnm_open, rnm_len]
  simp [hld] at ho2
  obtain ⟨⟨⟨⟨⟨h1, h2⟩, h3⟩, h4⟩, h5⟩, h6⟩ := ho2
  simp only [h1, h2, h3, h4, h5, h6, if_false, false_and, or_false]
  split
  ·exact hs _ _ hfr.open
  split
  ·exact hs _ _ hfr.open
  split
  ·exact wkc_ren ih hn2 ch nm hfr
  ·exact hs ch nm hfr
theorem rns_app (f g : List UInt8) (l m : List TP) : rns f g (l ++ m) = rns f g l ++ rns f g m := by simp [rns_map]
theorem rns_len (f g : List UInt8) (l : List TP) : (rns f g l).length = l.length := by simp [rns_map]
theorem rn_op (f g : List UInt8) (t : TP) : (rn f g t).op = t.op := by cases t; rfl
theorem lo_ren {f g x : List UInt8} (hg : loB g = true) (hx : loB x = true) : loB (ren f g x) = true := by
 unfold ren
 split
 ·exact hg
 ·exact hx
theorem all_rns {f g : List UInt8} {P Q : TP → Prop} {l : List TP} (h : ∀ k ∈ l, P k) (hi : ∀ k ∈ l, P k → Q (rn f g k)) : ∀ k ∈ rns f g l, Q k := fun k hk => by
 rw [rns_map] at hk
 obtain ⟨x, hx, rfl⟩ := List.mem_map.1 hk
 exact hi x hx (h x hx)
theorem path_rn {f g : List UInt8} {t : TP} (h : pathT t) : pathT (rn f g t) := by
 rcases h with h | ⟨h, k, hk, ho⟩
 ·exact .inl ((rn_op f g t).trans h)
 ·refine .inr ⟨(rn_op f g t).trans h, rn f g k, ?_, (rn_op f g k).trans ho⟩
  rw [rn_eq, hk]
  rfl
theorem const_rn {f g : List UInt8} {t : TP} (h : constT t) : constT (rn f g t) := by
 unfold constT at h ⊢
 rw [rn_op]
 rcases h with h | h | h | h | h | h | h | h
 ·exact .inl h
 ·exact .inr (.inl h)
 ·exact .inr (.inr (.inl h))
 ·exact .inr (.inr (.inr (.inl h)))
 ·exact .inr (.inr (.inr (.inr (.inl h))))
 ·exact .inr (.inr (.inr (.inr (.inr (.inl h)))))
 ·exact .inr (.inr (.inr (.inr (.inr (.inr (.inl h))))))
 ·exact .inr (.inr (.inr (.inr (.inr (.inr (.inr (path_rn h)))))))
theorem par_op {t : TP} (h : V .par t) : t.op = 54 := by cases h <;> rfl
theorem parOk_rn {f g : List UInt8} (hf : f ≠ []) (hg : g ≠ []) : ∀ (l : List TP) (k : Int) (us : List (List UInt8)), (∀ p ∈ l, V .par p) → g ∉ hns l → g ∉ us → parOk k us l → parOk k (us.map (ren f g)) (rns f g l)
 | [], _, _, _, _, _, _ => trivial
 | p :: l, k, us, hv, hn0, hu, h => by
  obtain ⟨h1, h2, h3, h4, h5⟩ := h
  rw [hns, List.mem_append, not_or] at hn0
  have ho := par_op (hv p (List.mem_cons_self ..))
  have hh : hld p.op = true := by rw [ho]; rfl
  have hnm : (rn f g p).name = ren f g p.name := by rw [rn_eq]; exact rename_hld hh hf
  have hn : (rn f g p).n = p.n := by rw [rn_eq]
  have hpg : p.name ≠ g := fun e => hn0.1 (by rw [← e]; exact hn_self hh (by rw [e]; exact hg))
  have hug : ∀ y ∈ us, y ≠ g := fun y hy e => hu (e ▸ hy)
  refine ⟨by rw [hn]; exact h1, by rw [hn]; exact h2, by rw [hn]; exact h3, ?_, ?_⟩
  ·rw [hnm]
   intro hm
   obtain ⟨y, hy, he⟩ := List.mem_map.1 hm
   exact h4 ((ren_inj (hug y hy) hpg).1 he ▸ hy)
  ·rw [hn, hnm]
   have hnil := ren_nil (x := p.name) hf hg
   by_cases hp : p.name = []
   ·have hr : ren f g p.name = [] := Classical.byContradiction fun e => (hnil.1 e) hp
    rw [if_pos hr]
    rw [if_pos hp] at h5
    exact parOk_rn hf hg l p.n us (fun q hq => hv q (List.mem_cons_of_mem _ hq)) hn0.2 hu h5
   ·rw [if_neg (hnil.2 hp)]
    rw [if_neg hp] at h5
    exact parOk_rn hf hg l p.n (p.name :: us) (fun q hq => hv q (List.mem_cons_of_mem _ hq)) hn0.2 (fun hm => (List.mem_cons.1 hm).elim (fun e => hpg e.symm) hu) h5
theorem filter_rn (f g : List UInt8) (l : List TP) : ((rns f g l).filter fun k => k.op == 52).length = (l.filter fun k => k.op == 52).length := by
 induction l with
 | nil => rfl
 | cons k l ih =>
  rw [rns, List.filter_cons, List.filter_cons, rn_op]
  split
  ·rw [List.length_cons, List.length_cons, ih]
  ·exact ih
theorem V.renm {f g : List UInt8} (hf : f ≠ []) (hlo : loB g = true) (hu : g ≠ [95]) : ∀ t : TP, g ∉ hn t → ∀ {r}, V r t → V r (rn f g t) := by
  have hg := lo_ne hlo
  refine TP.ind fun t ih hn0 r h => ?_
  have hki : ∀ k ∈ t.kids, ∀ {r}, V r k → V r (rn f g k) := fun k hk => ih k hk fun hx => hn0 (hn_kid hk hx)
  have hkl : ∀ {r : Ro} {l : List TP}, (∀ k ∈ l, k ∈ t.kids) → (∀ k ∈ l, V r k) → ∀ k ∈ rns f g l, V r k := fun hs hl => all_rns hl fun k hk hv => hki k (hs k hk) hv
  have hop := fun k => rn_op f g k
  have hpar : ∀ l : List TP, (∀ k ∈ l, k ∈ t.kids) → (∀ p ∈ l, V .par p) → parOk 0 [] l → parOk 0 [] (rns f g l) := fun l hs hl hp => parOk_rn hf hg l 0 [] hl (fun hx => by
    obtain ⟨k, hk, hx⟩ := hns_mem.1 hx
    exact hn0 (hn_kid (hs k hk) hx)) (by simp) hp
  have hch : hld 10 = true ∧ hld 11 = true ∧ hld 49 = true ∧ hld 52 = true ∧ hld 41 = true ∧ hld 54 = true := by decide
  have hx : ∀ {r : Ro}, r ≠ .arg → V r t → V r (rn f g t) := by
   clear h
   intro r ha h
   cases h with
   | bare ho => rw [Tree.rn, rename_no (by rcases ho with h | h | h | h | h <;> rw [h] <;> rfl)]; exact .bare ho
   | int h => rw [Tree.rn, rename_no rfl]; exact .int h
   | str h => rw [Tree.rn, rename_no rfl]; exact .str h
   | sym h => rw [Tree.rn, rename_no rfl]; exact .sym h
   | dstr1 h hs => rw [Tree.rn, rename_no rfl]; exact .dstr1 (hki _ (by simp) h) ((hop _).trans hs)
   | dstr3 h hs hx hy =>
     rw [Tree.rn, rename_no rfl]
     simp only [rns, Tree.rn, rename_no (show hld 5 = false from rfl)]
     exact .dstr3 (hki _ (by simp) h) ((hop _).trans hs) hx hy
   | args ho h => rw [Tree.rn, rename_no (by rcases ho with h | h <;> rw [h] <;> rfl)]; exact .args ho (hkl (fun _ h => h) h)
   | hash h2 h => rw [Tree.rn, rename_no rfl]; exact .hash (by rw [rns_len]; exact h2) (hkl (fun _ h => h) h)
   | loc h => rw [Tree.rn, rename_hld hch.1 hf]; exact .loc (lo_ren hlo h)
   | setl h hk => rw [Tree.rn, rename_hld hch.2.1 hf]; exact .setl (lo_ren hlo h) (hki _ (by simp) hk)
   | ivar h => rw [Tree.rn, rename_no rfl]; exact .ivar h
   | seti h hk => rw [Tree.rn, rename_no rfl]; exact .seti h (hki _ (by simp) hk)
   | const h => rw [Tree.rn, rename_no rfl]; exact .const h
   | scope ho h hk => rw [Tree.rn, rename_no (by rcases ho with h | h <;> rw [h] <;> rfl)]; exact .scope ho h (hki _ (by simp) hk)
   | cop h hk hl h1 h2 h3 =>
     rw [Tree.rn, rename_no rfl]
     exact .cop h (hki _ (by simp) hk) (hkl (fun k hk => by simp [hk]) hl) (by rw [rns_len]; exact h1) (by rw [rns_len]; exact h2) (by rw [rns_len]; exact h3)
   | cset h ho he hk hq => rw [Tree.rn, rename_no rfl]; exact .cset h ho he (hki _ (by simp) hk) (hki _ (by simp) hq)
   | call h ho he hn hk hl hb h1 =>
     rw [Tree.rn, rename_no rfl, rns, rns_app]
     exact .call h ho he hn (hki _ (by simp) hk) (hkl (fun k hk => by simp [hk]) hl) (hkl (fun k hk => by simp [hk]) hb) (by rw [rns_len]; exact h1)
   | fcall h hl hb h1 =>
     rw [Tree.rn, rename_no rfl, rns_app]
     exact .fcall h (hkl (fun k hk => by simp [hk]) hl) (hkl (fun k hk => by simp [hk]) hb) (by rw [rns_len]; exact h1)
   | super hl hb h1 =>
     rw [Tree.rn, rename_no rfl, rns_app]
     exact .super (hkl (fun k hk => by simp [hk]) hl) (hkl (fun k hk => by simp [hk]) hb) (by rw [rns_len]; exact h1)
   | zsup => rw [Tree.rn, rename_no rfl]; exact .zsup
   | lam hl hp hs h =>
     rw [Tree.rn, rename_no rfl, rns_app]
     exact .lam (hkl (fun k hk => by simp [hk]) hl) (hpar _ (fun k hk => by simp [hk]) hl hp) (hki _ (by simp) hs) ((hop _).trans h)
   | seq h => rw [Tree.rn, rename_no rfl]; exact .seq (hkl (fun _ h => h) h)
   | iff hk hs hso hq hqo => rw [Tree.rn, rename_no rfl]; exact .iff (hki _ (by simp) hk) (hki _ (by simp) hs) ((hop _).trans hso) (hki _ (by simp) hq) ((hop _).trans hqo)
   | whil ho hk hs hso => rw [Tree.rn, rename_no (by rcases ho with h | h <;> rw [h] <;> rfl)]; exact .whil ho (hki _ (by simp) hk) (hki _ (by simp) hs) ((hop _).trans hso)
   | and ho hk hq => rw [Tree.rn, rename_no (by rcases ho with h | h <;> rw [h] <;> rfl)]; exact .and ho (hki _ (by simp) hk) (hki _ (by simp) hq)
   | not hk => rw [Tree.rn, rename_no rfl]; exact .not (hki _ (by simp) hk)
   | cls0 h hs hso => rw [Tree.rn, rename_no rfl]; exact .cls0 h (hki _ (by simp) hs) ((hop _).trans hso)
   | cls1 h hk hs hso => rw [Tree.rn, rename_no rfl]; exact .cls1 h (hki _ (by simp) hk) (hki _ (by simp) hs) ((hop _).trans hso)
   | modu h hs hso => rw [Tree.rn, rename_no rfl]; exact .modu h (hki _ (by simp) hs) ((hop _).trans hso)
   | dfn h hn hl hp hs hso =>
     rw [Tree.rn, rename_no rfl, rns_app]
     exact .dfn h hn (hkl (fun k hk => by simp [hk]) hl) (hpar _ (fun k hk => by simp [hk]) hl hp) (hki _ (by simp) hs) ((hop _).trans hso)
   | ret ho h1 h => rw [Tree.rn, rename_no (by rcases ho with h | h | h <;> rw [h] <;> rfl)]; exact .ret ho (by rw [rns_len]; exact h1) (hkl (fun _ h => h) h)
   | begin hs hso hl he h1 h2 =>
     rw [Tree.rn, rename_no rfl, rns, rns_app]
     exact .begin (hki _ (by simp) hs) ((hop _).trans hso) (hkl (fun k hk => by simp [hk]) hl) (hkl (fun k hk => by simp [hk]) he) (by rw [rns_len]; exact h1) (by rw [rns_len, rns_len]; exact h2)
   | alias h hy =>
     rw [Tree.rn, rename_no rfl]
     simp only [rns, Tree.rn, rename_no (show hld 6 = false from rfl)]
     exact .alias h hy
   | undef h => rw [Tree.rn, rename_no rfl]; exact .undef h
   | cas hn hk hl h1 he h2 =>
     rw [Tree.rn, rename_no rfl, rns, rns_app]
     exact .cas hn (hki _ (by simp) hk) (hkl (fun k hk => by simp [hk]) hl) (by rw [rns_len]; exact h1) (hkl (fun k hk => by simp [hk]) he) (by rw [rns_len]; exact h2)
   | argx h => exact absurd rfl ha
   | splat h => rw [Tree.rn, rename_no rfl]; exact .splat (hki _ (by simp) h)
   | bpass h => rw [Tree.rn, rename_no rfl]; exact .bpass (hki _ (by simp) h)
   | block hl hp hs h =>
     rw [Tree.rn, rename_no rfl, rns_app]
     exact .block (hkl (fun k hk => by simp [hk]) hl) (hpar _ (fun k hk => by simp [hk]) hl hp) (hki _ (by simp) hs) ((hop _).trans h)
   | par0 =>
     rw [Tree.rn, rename_hld hch.2.2.2.2.2 hf, show ren f g [] = [] from Classical.byContradiction fun e => (ren_nil hf hg).1 e rfl]
     exact .par0
   | parn h hn => rw [Tree.rn, rename_hld hch.2.2.2.2.2 hf]; exact .parn (lo_ren hlo h) hn
   | par1 h hk => rw [Tree.rn, rename_hld hch.2.2.2.2.2 hf]; exact .par1 (lo_ren hlo h) (hki _ (by simp) hk)
   | res h hl hs hso =>
     rw [Tree.rn, rename_hld hch.2.2.2.2.1 hf, rns_app]
     refine .res ?_ (hkl (fun k hk => by simp [hk]) hl) (hki _ (by simp) hs) ((hop _).trans hso)
     rcases h with rfl | h
     · exact .inl (Classical.byContradiction fun e => (ren_nil hf hg).1 e rfl)
     · exact .inr (lo_ren hlo h)
   | ens hs hso => rw [Tree.rn, rename_no rfl]; exact .ens (hki _ (by simp) hs) ((hop _).trans hso)
   | els hs hso => rw [Tree.rn, rename_no rfl]; exact .els (hki _ (by simp) hs) ((hop _).trans hso)
   | inn hp hs hso => rw [Tree.rn, rename_no rfl]; exact .inn (hki _ (by simp) hp) (hki _ (by simp) hs) ((hop _).trans hso)
   | ing hp hk hs hso => rw [Tree.rn, rename_no rfl]; exact .ing (hki _ (by simp) hp) (hki _ (by simp) hk) (hki _ (by simp) hs) ((hop _).trans hso)
   | pval0 hk => rw [Tree.rn, rename_no rfl]; exact .pval0 (hki _ (by simp) hk)
   | pval1 hk hc => rw [Tree.rn, rename_no rfl]; exact .pval1 (hki _ (by simp) hk) (const_rn hc)
   | palt0 hl ho h2 => rw [Tree.rn, rename_no rfl]; exact .palt0 (hkl (fun _ h => h) hl) (all_rns ho fun k _ h => (hop k).trans h) (by rw [rns_len]; exact h2)
   | palt1 hl h2 => rw [Tree.rn, rename_no rfl]; exact .palt1 (hkl (fun _ h => h) hl) (by rw [rns_len]; exact h2)
   | pbind h hx =>
     rw [Tree.rn, rename_hld hch.2.2.1 hf]
     refine .pbind (lo_ren hlo h) ?_
     unfold ren
     split
     · exact hu
     · exact hx
   | pany => rw [Tree.rn, rename_no rfl]; exact .pany
   | parr hl hr h1 =>
     rw [Tree.rn, rename_no rfl]
     refine .parr (all_rns hl fun k hk hv ho => hki k hk (hv (by rw [hop] at ho; exact ho))) (all_rns hr fun k hk hv ho => hki k hk (hv (by rw [hop] at ho; exact ho))) (by rw [filter_rn]; exact h1)
   | prest h =>
     rw [Tree.rn, rename_hld hch.2.2.2.1 hf]
     refine .prest ?_
     rcases h with rfl | h
     · exact .inl (Classical.byContradiction fun e => (ren_nil hf hg).1 e rfl)
     · exact .inr (lo_ren hlo h)
   | use hk hp => rw [Tree.rn, rename_no rfl]; exact .use (hki _ (by simp) hk) (path_rn hp)
   | top h hu => 
     rw [Tree.rn, rename_no rfl]
     exact .top (all_rns h fun k hk hv ho => hki k hk (hv (by rw [hop] at ho; exact ho))) (all_rns hu fun k hk hv ho => hki k hk (hv (by rw [hop] at ho; exact ho)))
  by_cases ha : r = .arg
  · subst ha
    rcases arg_cases h with h | ⟨a, c, k, hk, rfl⟩
    · exact .argx (hx (by intro e; cases e) h)
    · rw [rn, rename_no rfl]
      exact .splat (hki k (by simp) hk)
  · exact hx ha h
end Go.Tree
namespace Go.Proofs.YtpikpjlhdkkigaaGreatDoor
open Go.AX Go.RowKit Go.Tree Go.Scan
set_option maxRecDepth 20000
abbrev NL := List (List UInt8)
def nmL : NL := [[120], [121], [122], [95], [108, 111, 110, 103, 95, 110, 97, 109, 101, 49], [119], [114], [101]]
def otherL : List UInt8 := [111, 116, 104, 101, 114]
theorem nmL_lo : ∀ x ∈ nmL, loB x = true := by decide +kernel
theorem nmL_other : otherL ∉ nmL := by decide +kernel
theorem nmL_len : ∀ x ∈ nmL, x.length ≤ 10 := by decide +kernel
theorem nmL_ne {x : List UInt8} (h : x ∈ nmL) : x ≠ [] := lo_ne (nmL_lo x h)
theorem nodup_len {α : Type} [DecidableEq α] : ∀ {l m : List α}, l.Nodup → (∀ x ∈ l, x ∈ m) → l.length ≤ m.length
 | [], _, _, _ => Nat.zero_le _
 | x :: l, m, hn, hs => by
  obtain ⟨h1, h2⟩ := List.nodup_cons.1 hn
  have hx := hs x (List.mem_cons_self ..)
  have := nodup_len (l := l) (m := m.erase x) h2 fun y hy => (List.mem_erase_of_ne (fun e => h1 (by rw [← e]; exact hy))).2 (hs y (List.mem_cons_of_mem _ hy))
  rw [List.length_erase_of_mem hx] at this
  have hp : 0 < m.length := List.length_pos_of_mem hx
  rw [List.length_cons]
  omega
structure KL (k : NL) : Prop where
 nd : k.Nodup
 mem : ∀ x ∈ k, x ∈ nmL
theorem KL.nil : KL [] := ⟨List.nodup_nil, fun _ h => by cases h⟩
theorem KL.len {k : NL} (h : KL k) : k.length ≤ 8 := nodup_len h.nd h.mem
def kadd (k : NL) (x : List UInt8) : NL := if x ∈ k then k else k ++ [x]
theorem KL.add {k : NL} (h : KL k) {x : List UInt8} (hx : x ∈ nmL) : KL (kadd k x) := by
 unfold kadd
 split
 ·exact h
 ·rename_i hn
  refine ⟨?_, fun y hy => ?_⟩
  ·rw [List.nodup_append]
   refine ⟨h.nd, by simp, fun a ha b hb => ?_⟩
   rw [List.mem_singleton.1 hb]
   exact fun e => hn (e ▸ ha)
  ·rcases List.mem_append.1 hy with hy | hy
   ·exact h.mem y hy
   ·rw [List.mem_singleton.1 hy]; exact hx
theorem kadd_sub {k : NL} {x y : List UInt8} (h : y ∈ kadd k x) : y ∈ x :: k := by
 unfold kadd at h
 split at h
 ·exact List.mem_cons_of_mem _ h
 ·rcases List.mem_append.1 h with h | h
  ·exact List.mem_cons_of_mem _ h
  ·rw [List.mem_singleton.1 h]; exact List.mem_cons_self ..
structure Gs (k : NL) (l : List TP) (k' : NL) (s d : Nat) : Prop where
 kn : Kns k l k'
 sz : szs l ≤ s
 dp : dps l ≤ d
 hn : ∀ x ∈ hns l, x ∈ nmL
 tk : ∀ t ∈ l, TreeK t
structure Gn (k : NL) (t : TP) (k' : NL) (s d : Nat) : Prop where
 kn : Kn k t k'
 sz : t.sz ≤ s
 dp : t.dp ≤ d
 hn : ∀ x ∈ hn t, x ∈ nmL
 tk : TreeK t
theorem Gs.nil (k : NL) (d : Nat) : Gs k [] k 0 d := ⟨Kns.nil k, Nat.le_refl _, Nat.zero_le _, (fun _ h => by cases h), fun _ h => by cases h⟩
theorem Gs.le {k : NL} {l : List TP} {k' : NL} {s d s2 d2 : Nat} (h : Gs k l k' s d) (hs : s ≤ s2) (hd : d ≤ d2) : Gs k l k' s2 d2 := ⟨h.kn, Nat.le_trans h.sz hs, Nat.le_trans h.dp hd, h.hn, h.tk⟩
theorem Gn.le {k : NL} {t : TP} {k' : NL} {s d s2 d2 : Nat} (h : Gn k t k' s d) (hs : s ≤ s2) (hd : d ≤ d2) : Gn k t k' s2 d2 := ⟨h.kn, Nat.le_trans h.sz hs, Nat.le_trans h.dp hd, h.hn, h.tk⟩
theorem hns_one (t : TP) : hns [t] = hn t := by simp [hns]
theorem szs_one (t : TP) : szs [t] = t.sz := by simp [szs]
theorem dps_one (t : TP) : dps [t] = t.dp := by simp [dps]
theorem Gn.s {k : NL} {t : TP} {k' : NL} {s d : Nat} (h : Gn k t k' s d) : Gs k [t] k' s d :=
 ⟨Kns.one h.kn, by rw [szs_one]; exact h.sz, by rw [dps_one]; exact h.dp, by rw [hns_one]; exact h.hn, fun u hu => by rw [List.mem_singleton.1 hu]; exact h.tk⟩
theorem Gs.app {k k1 k2 : NL} {l m : List TP} {s s2 d : Nat} (h : Gs k l k1 s d) (h2 : Gs k1 m k2 s2 d) : Gs k (l ++ m) k2 (s + s2) d :=
 ⟨h.kn.app h2.kn, by rw [szs_app]; have := h.sz; have := h2.sz; omega, by rw [dps_app]; have := h.dp; have := h2.dp; omega, fun x hx => by
  rw [hns_app] at hx
  exact (List.mem_append.1 hx).elim (h.hn x) (h2.hn x), fun t ht => (List.mem_append.1 ht).elim (h.tk t) (h2.tk t)⟩
theorem Gs.snoc {k k1 k2 : NL} {l : List TP} {t : TP} {s s2 d : Nat} (h : Gs k l k1 s d) (h2 : Gn k1 t k2 s2 d) : Gs k (l ++ [t]) k2 (s + s2) d := h.app h2.s
theorem Gs.cons {k k1 k2 : NL} {l : List TP} {t : TP} {s s2 d : Nat} (h : Gn k t k1 s d) (h2 : Gs k1 l k2 s2 d) : Gs k (t :: l) k2 (s + s2) d := h.s.app h2
theorem Gs.weak {k k' k2 k3 : NL} {l : List TP} {s d : Nat} (h : Gs k l k2 s d) (h1 : ∀ x ∈ k, x ∈ k') (h2 : ∀ x ∈ k3, x ∈ k2) : Gs k' l k3 s d := ⟨h.kn.weak h1 h2, h.sz, h.dp, h.hn, h.tk⟩
def RowK (a : Option Addr) (c : Nat) (ks : List TP) : Prop := (a = none → ks = []) ∧ ks.length ≤ c
theorem RowK.nil (c : Nat) (a : Option Addr) : RowK a c [] := ⟨fun _ => rfl, Nat.zero_le _⟩
theorem RowK.some {b : Addr} {c : Nat} {ks : List TP} (h : ks.length ≤ c) : RowK (some b) c ks := ⟨(fun h => by cases h), h⟩
theorem treeK {o n : Int} {x : List UInt8} {a : Option Addr} {c : Nat} {ks : List TP} (hr : RowK a c ks) (hl : ks.length ≤ 1048576) (hx : x.length ≤ 1048576) (hk : ∀ t ∈ ks, TreeK t) : TreeK ⟨o, x, n, a, ks, c⟩ := .mk hr.1 hl hx hr.2 hk
theorem hn_in {o n : Int} {x : List UInt8} {a : Option Addr} {c : Nat} {ks : List TP} (hx : own o x = true → x ∈ nmL) (hk : ∀ y ∈ hns ks, y ∈ nmL) : ∀ y ∈ hn ⟨o, x, n, a, ks, c⟩, y ∈ nmL := fun y hy => by
 rw [hn_eq] at hy
 rcases List.mem_append.1 hy with hy | hy
 ·by_cases h : own o x = true
  ·rw [if_pos h] at hy
   rw [List.mem_singleton.1 hy]
   exact hx h
  ·rw [if_neg h] at hy; cases hy
 ·exact hk y hy
theorem Gn.of {k k' : NL} {o n : Int} {x : List UInt8} {a : Option Addr} {c s d : Nat} {ks : List TP} (hr : RowK a c ks) (hx : x.length ≤ 2000) (hs : s ≤ 100000) (hw : own o x = true → x ∈ nmL) (h1 : szs ks ≤ s) (h2 : dps ks ≤ d) (h3 : ∀ y ∈ hns ks, y ∈ nmL) (h4 : ∀ t ∈ ks, TreeK t) (hk : Kn k ⟨o, x, n, a, ks, c⟩ k') : Gn k ⟨o, x, n, a, ks, c⟩ k' (s + 1) (d + 1) :=
 ⟨hk, by rw [sz_eq]; show 1 + szs ks ≤ _; omega, by rw [dp_eq]; show 1 + dps ks ≤ _; omega, hn_in hw h3, treeK hr (by have := len_szs ks; omega) (by omega) h4⟩
def opQ (o : Int) : Bool := !([10, 11, 49, 52, 54, 35, 24, 25, 41, 32, 33, 34].contains o)
theorem opQ_plain {o : Int} (h : opQ o = true) (x : List UInt8) : plainOp o x ∧ own o x = false := by
 simp [opQ] at h
 simp [plainOp, own, hld, h]
theorem Gn.q {k k' : NL} {o n : Int} {x : List UInt8} {a : Option Addr} {c s d : Nat} {ks : List TP} (ho : opQ o = true) (hr : RowK a c ks) (hx : x.length ≤ 2000) (hs : s ≤ 100000) (h : Gs k ks k' s d) : Gn k ⟨o, x, n, a, ks, c⟩ k' (s + 1) (d + 1) :=
 .of hr hx hs (fun e => by rw [(opQ_plain ho x).2] at e; cases e) h.sz h.dp h.hn h.tk (Kn.plain (opQ_plain ho x).1 h.kn)
theorem Gn.leaf {k : NL} {o n : Int} {x : List UInt8} {a : Option Addr} {c d : Nat} (ho : opQ o = true) (hx : x.length ≤ 2000) : Gn k ⟨o, x, n, a, [], c⟩ k 1 (d + 1) := .q ho (.nil _ _) hx (Nat.zero_le _) (.nil k d)
theorem Gn.loc {k : NL} {n : Int} {x : List UInt8} {a : Option Addr} {c d : Nat} (hx : x ∈ k) (hm : x ∈ nmL) : Gn k ⟨10, x, n, a, [], c⟩ k 1 (d + 1) :=
 .of (.nil _ _) (by have := nmL_len x hm; omega) (Nat.zero_le _) (fun _ => hm) (Nat.le_refl _) (Nat.zero_le _) (fun _ h => by cases h) (fun _ h => by cases h) (Kn.loc hx)
theorem Gn.set {k k' : NL} {o n : Int} {x : List UInt8} {a : Option Addr} {c s d : Nat} {ks : List TP} (ho : o = 11 ∨ o = 49 ∨ (o = 52 ∧ x ≠ [])) (hm : x ∈ nmL) (hr : RowK a c ks) (hs : s ≤ 100000) (h : Gs (kadd k x) ks k' s d) : Gn k ⟨o, x, n, a, ks, c⟩ k' (s + 1) (d + 1) :=
 .of hr (by have := nmL_len x hm; omega) hs (fun _ => hm) h.sz h.dp h.hn h.tk (Kn.set ho (h.kn.weak (fun y hy => kadd_sub hy) fun _ h => h))
theorem Gn.par {k k' : NL} {n : Int} {x : List UInt8} {a : Option Addr} {c s d : Nat} {ks : List TP} (hm : x ∈ nmL) (hr : RowK a c ks) (hs : s ≤ 100000) (h : Gs (kadd k x) ks k' s d) : Gn k ⟨54, x, n, a, ks, c⟩ k' (s + 1) (d + 1) :=
 .of hr (by have := nmL_len x hm; omega) hs (fun _ => hm) h.sz h.dp h.hn h.tk (Kn.par (nmL_ne hm) (h.kn.weak (fun y hy => kadd_sub hy) fun _ h => h))
theorem Gn.none {k : NL} {o n : Int} {a : Option Addr} {c d : Nat} (ho : o = 54 ∨ o = 52) : Gn k ⟨o, [], n, a, [], c⟩ k 1 (d + 1) := by
 refine .of (.nil _ _) (Nat.zero_le _) (Nat.zero_le _) (fun h => ?_) (Nat.le_refl _) (Nat.zero_le _) (fun _ h => by cases h) (fun _ h => by cases h) (Kn.plain ?_ (Kns.nil k))
 ·rcases ho with rfl | rfl <;> exact absurd h (by decide)
 ·rcases ho with rfl | rfl <;> decide
theorem Gn.blk {k k' : NL} {o n : Int} {a : Option Addr} {c s d : Nat} {ks : List TP} (ho : o = 24 ∨ o = 25) (hr : RowK a c ks) (hs : s ≤ 100000) (h : Gs k ks k' s d) : Gn k ⟨o, [], n, a, ks, c⟩ k (s + 1) (d + 1) :=
 .of hr (Nat.zero_le _) hs (fun e => by rcases ho with rfl | rfl <;> exact absurd e (by decide)) h.sz h.dp h.hn h.tk (Kn.blk ho h.kn)
theorem Gn.dfn {k k' : NL} {n : Int} {x : List UInt8} {a : Option Addr} {c s d : Nat} {ks : List TP} (hx : x.length ≤ 2000) (hr : RowK a c ks) (hs : s ≤ 100000) (h : Gs [] ks k' s d) : Gn k ⟨35, x, n, a, ks, c⟩ k (s + 1) (d + 1) :=
 .of hr hx hs (fun e => absurd e (by simp [own, hld])) h.sz h.dp h.hn h.tk (Kn.dfn h.kn)
theorem Gn.cls {k k1 k2 : NL} {o n : Int} {x : List UInt8} {a : Option Addr} {c s d s1 s2 : Nat} {ks : List TP} {q : TP} (ho : o = 32 ∨ o = 33 ∨ o = 34) (hx : x.length ≤ 2000) (hr : RowK a c (ks ++ [q])) (hs : s ≤ 100000) (h : Gs k ks k1 s1 d) (hq : Gn [] q k2 s2 d) (he : s1 + s2 ≤ s) : Gn k ⟨o, x, n, a, ks ++ [q], c⟩ k1 (s + 1) (d + 1) := by
 refine .of hr hx hs (fun e => ?_) ?_ ?_ (fun y hy => ?_) (fun t ht => ?_) (Kn.cls ho h.kn hq.kn)
 ·rcases ho with rfl | rfl | rfl <;> exact absurd e (by simp [own, hld])
 ·rw [szs_app, szs_one]; have := h.sz; have := hq.sz; omega
 ·rw [dps_app, dps_one]; have := h.dp; have := hq.dp; omega
 ·rw [hns_app, hns_one] at hy
  exact (List.mem_append.1 hy).elim (h.hn y) (hq.hn y)
 ·rcases List.mem_append.1 ht with ht | ht
  ·exact h.tk t ht
  ·rw [List.mem_singleton.1 ht]; exact hq.tk
theorem Gn.res {k k1 k2 : NL} {n : Int} {x : List UInt8} {a : Option Addr} {c s d s1 s2 : Nat} {ks : List TP} {q : TP} (hm : x ∈ nmL) (hr : RowK a c (ks ++ [q])) (hs : s ≤ 100000) (h : Gs k ks k1 s1 d) (hq : Gn (kadd k1 x) q k2 s2 d) (he : s1 + s2 ≤ s) : Gn k ⟨41, x, n, a, ks ++ [q], c⟩ k2 (s + 1) (d + 1) := by
 refine .of hr (by have := nmL_len x hm; omega) hs (fun _ => hm) ?_ ?_ (fun y hy => ?_) (fun t ht => ?_) (Kn.res (nmL_ne hm) h.kn (hq.kn.weak (fun y hy => kadd_sub hy) fun _ h => h))
 ·rw [szs_app, szs_one]; have := h.sz; have := hq.sz; omega
 ·rw [dps_app, dps_one]; have := h.dp; have := hq.dp; omega
 ·rw [hns_app, hns_one] at hy
  exact (List.mem_append.1 hy).elim (h.hn y) (hq.hn y)
 ·rcases List.mem_append.1 ht with ht | ht
  ·exact h.tk t ht
  ·rw [List.mem_singleton.1 ht]; exact hq.tk
theorem Gn.res0 {k k2 : NL} {n : Int} {a : Option Addr} {c s d : Nat} {ks : List TP} (hr : RowK a c ks) (hs : s ≤ 100000) (h : Gs k ks k2 s d) : Gn k ⟨41, [], n, a, ks, c⟩ k2 (s + 1) (d + 1) :=
 .of hr (Nat.zero_le _) hs (fun e => absurd e (by decide)) h.sz h.dp h.hn h.tk (Kn.plain (by decide) h.kn)
theorem G_v {r : Ro} {l : List TP} {t : TP} (h : ∀ k ∈ l, V r k) (ht : V r t) : ∀ k ∈ l ++ [t], V r k := allV h (allC ht allN)
end Go.Proofs.YtpikpjlhdkkigaaGreatDoor
namespace Go.Proofs.YtpikpjlhdkkigaaGreatDoor
open Go.AX Go.RowKit Go.Scan
set_option maxRecDepth 20000
theorem Fields_c (s : List UInt8) (hs : s.length < 4294967281) (ha : ∀ c ∈ s, c.toNat < 128) : SpecF Tryz.prog 114 [.string (bs s)] ScanF fun v G => ∃ b, v = .slice (some ⟨b, 0, none⟩) (Lib.fields s).length (Lib.fields s).length ∧ ∀ w, G w → SlAt (some ⟨b, 0, none⟩) (Lib.fields s).length ((Lib.fields s).map fun l => Value.string (bs l)) w :=
 specF_new (T := 9) (callOk Tryz.func114 (by kernel_rfl) rfl) (by simp) fun w hw => (Tryz.strings_Fields (bs s) w (by rw [bs_size]; exact hs) (fun j b hj => ha b (List.mem_of_getElem? hj)) hw.2).mono fun e w' ⟨he, hw'⟩ => ⟨he, hw'⟩
def strsC (l : List (List UInt8)) : List Value := l.map fun t => .string (bs t)
theorem strsC_get {l : List (List UInt8)} {i : Nat} {t : List UInt8} (h : l[i]? = some t) : (strsC l)[i]? = some (.string (bs t)) := by
 unfold strsC
 rw [List.getElem?_map, h]
 rfl
theorem SIndex_c (a : Option Addr) (l : List (List UInt8)) (cap : Nat) (s : List UInt8) (ha : l ≠ [] → a.isSome = true) (hl : l.length ≤ 1000000) :
  ∀ H, (∀ w, Facts H w → SlAt a l.length (strsC l) w) → SpecH Tryz.prog 78 (pvs [.slice a l.length cap, .string (bs s)]) H (RetR (fun v => ∃ n : Int, v = .int .i64 n ∧ (0 ≤ n ↔ l.contains s = true)) H) := by
 refine factR hm Tryz.func78 (by kernel_rfl) rfl rfl ?_
 refine wX ?_
 refine loopS Nat (fun i => i ≤ l.length ∧ (l.take i).contains s = false) (fun i => mkS Tryz.f78.ntmps 0 [(0, .c (.v (.slice a l.length cap))), (1, .c (.v (.string (bs s)))), (7, .c (.v (.int .i64 (l.length : Int)))), (8, .c (.v (.int .i64 (i : Int))))]) (fun i => l.length - i) rfl (fun _ => rfl) 0 ⟨Nat.zero_le _, by simp⟩ ?_ ?_
 ·exact wKK
 intro i ⟨hi, hno⟩
 refine wX ?_
 refine brd_dec (fun h1 => ?_) (fun h1 => ?_)
 ·obtain ⟨t, ht⟩ : ∃ t, l[i]? = some t := ⟨_, List.getElem?_eq_getElem (by omega)⟩
  have hsa : a.isSome = true := ha (fun h => by rw [h] at ht; cases ht)
  refine wX ?_
  refine Nd.mk ⟨hsa, by omega, by omega⟩ ?_
  refine wX ?_
  refine LdN.one (.string (bs t)) rfl (fun w hw => hw.1) (by show (strsC l)[Int.toNat _ * 1]? = _; rw [Int.toNat_natCast, Nat.mul_one]; exact strsC_get ht) ?_
  refine wX ?_
  refine brd_intro (fun h2 => ?_) (fun h2 => ?_)
  ·have h3 : s = t := eq_of_beq (show (s == t) = true from h2)
   refine wX ?_
   refine ⟨_, rfl, (i : Int), rfl, ⟨fun _ => ?_, fun _ => by omega⟩⟩
   rw [h3]
   exact List.contains_iff_mem.2 (List.mem_of_getElem? ht)
  ·have h3 : (s == t) = false := h2
   refine wX ?_
   refine ⟨i + 1, ⟨by omega, ?_⟩, by omega, ?_, wHH⟩
   ·rw [List.take_add_one, ht]
    simp only [List.contains_append, hno, Bool.false_or]
    simp
    simpa using h3
   ·exact wKK
 ·have hie : i = l.length := by omega
  subst hie
  rw [List.take_length] at hno
  refine wX ?_
  refine ⟨_, rfl, -1, rfl, ⟨fun h => absurd h (by decide), fun h => by rw [hno] at h; cases h⟩⟩
theorem Contains_c (a : Option Addr) (l : List (List UInt8)) (cap : Nat) (s : List UInt8) (ha : l ≠ [] → a.isSome = true) (hl : l.length ≤ 1000000) :
  ∀ H, (∀ w, Facts H w → SlAt a l.length (strsC l) w) → SpecH Tryz.prog 80 (pvs [.slice a l.length cap, .string (bs s)]) H (Ret (.bool (l.contains s)) H) := by
 refine factC hm Tryz.func80 (by kernel_rfl) rfl rfl ?_
 refine wX ?_
 refine callR (SIndex_c a l cap s ha hl _ (fun w hw => hw.1)) fun v hv => ?_
 obtain ⟨n, rfl, hn⟩ := hv
 refine wX ?_
 refine ret_b ?_
 rw [← hn]
 simp
theorem isWords_c (s : List UInt8) (hs : s.length ≤ 200000000000000) : ∀ H, SpecH Tryz.prog 84 (pvs [.string (bs s)]) H (Ret (.bool (iwB s)) H) := by
 refine pureC hm Tryz.func84 (by kernel_rfl) rfl rfl ?_
 have hz := bs_size s
 refine wX ?_
 rw [hz]
 refine loopS Nat (fun i => i ≤ s.length ∧ (s.take i).all wrd = true) (fun i => mkS Tryz.f84.ntmps 0 [(0, .c (.v (.string (bs s)))), (5, .c (.v (.int .i64 (s.length : Int)))), (6, .c (.v (.int .i64 (i : Int))))]) (fun i => s.length - i) rfl (fun _ => rfl) 0 ⟨Nat.zero_le _, rfl⟩ ?_ ?_
 ·exact wKK
 intro i ⟨hi, hall⟩
 refine wX ?_
 refine brd_dec (fun h1 => ?_) (fun h1 => ?_)
 ·obtain ⟨c, hc⟩ : ∃ c, s[i]? = some c := ⟨_, List.getElem?_eq_getElem (by omega)⟩
  refine wX ?_
  try refine Nd.mk ⟨by omega, by rw [hz]; exact h1⟩ ?_
  refine wX ?_
  rw [Int.toNat_natCast, byteAt_get hc]
  refine call1 (wrd_c c _) ?_
  cases hw : wrd c with
  | true =>
   refine wX ?_
   refine ⟨i + 1, ⟨by omega, ?_⟩, by omega, ?_, wHH⟩
   ·rw [List.take_add_one, hc, List.all_append, hall]
    simp [hw]
   ·exact wKK
  | false =>
   refine wX ?_
   refine ret_b ?_
   have : s.all wrd = false := by
    rw [Bool.eq_false_iff]
    intro h
    have := List.all_eq_true.1 h c (List.mem_of_getElem? hc)
    rw [hw] at this
    cases this
   simp [iwB, this]
 ·have hie : i = s.length := by omega
  subst hie
  rw [List.take_length] at hall
  cases s with
  | nil =>
   refine wX ?_
   exact ret_b (by simp [iwB])
  | cons c r =>
   have hz2 : (bs (c :: r)).size = (c :: r).length := hz
   refine wX ?_
   rw [hz2]
   refine brd_dec (fun h2 => ?_) (fun h2 => ?_)
   ·have hl2 : (c :: r).length ≤ 40 := by omega
    refine wX ?_
    try refine Nd.mk ⟨by omega, by rw [hz2, List.length_cons]; omega⟩ ?_
    refine wX ?_
    rw [show byteAt (bs (c :: r)) (Int.toNat 0) = (c.toNat : Int) from byteAt_get (l := c :: r) (i := 0) rfl]
    refine call1 (dig_c c _) ?_
    refine wX ?_
    refine ret_b ?_
    simp only [iwB, hall, hd, List.headD_cons, List.isEmpty_cons, decide_eq_true hl2]
    simp
   ·have hl2 : ¬ (c :: r).length ≤ 40 := by omega
    refine wX ?_
    refine ret_b ?_
    simp only [iwB, decide_eq_false hl2]
    simp
theorem iw_cons {b : List UInt8} (h : iwB b = true) : ∃ y q, b = y :: q := by
 cases b with
 | nil => simp [iwB] at h
 | cons y q => exact ⟨y, q, rfl⟩
theorem isName_c (s : List UInt8) (hs : s.length ≤ 200000000000000) : ∀ H, SpecH Tryz.prog 75 (pvs [.string (bs s)]) H (Ret (.bool (inB s)) H) := by
 refine pureC hm Tryz.func75 (by kernel_rfl) rfl rfl ?_
 cases s with
 | nil =>
  refine wX ?_
  refine call1 (isWords_c [] (by decide) _) ?_
  refine wX ?_
  try exact ret_b (by simp [inB, bareS, endB, iwB])
 | cons x r =>
  have hz := bs_size (x :: r)
  have hl1 : (x :: r).length = r.length + 1 := rfl
  obtain ⟨c, hc⟩ : ∃ c, (x :: r)[r.length]? = some c := ⟨_, List.getElem?_eq_getElem (by simp)⟩
  have hlast : (x :: r).getLast? = some c := by rw [List.getLast?_eq_getElem?]; exact hc
  have hw1 : IntKind.i64.wrap (((x :: r).length : Int) - 1) = ((r.length : Nat) : Int) := by rw [wrap_i64 (by omega)]; omega
  have h63 : ((c.toNat : Int) == 63) = (c == 63) := u8_eq (n := 63) (by decide)
  have h33 : ((c.toNat : Int) == 33) = (c == 33) := u8_eq (n := 33) (by decide)
  have hdl : (x :: r).take r.length = (x :: r).dropLast := by rw [List.dropLast_eq_take]; rfl
  have hdl2 : (x :: r).dropLast.length = r.length := by simp
  refine wX ?_
  rw [hz, hw1]
  refine Nd.mk ⟨by omega, by omega⟩ ?_
  refine wX ?_
  rw [Int.toNat_natCast, byteAt_get hc, h63]
  cases e63 : c == 63 with
  | true =>
   have hb : bareS (x :: r) = (x :: r).dropLast := by simp [bareS, endB, hlast, show c = 63 by simpa using e63]
   refine wX ?_
   rw [hz, hw1]
   refine ReadW.sl_h r.length rfl Tryz.underlying9 rfl rfl ⟨rfl, by omega⟩ ?_
   rw [hdl]
   refine wX ?_
   refine call1 (isWords_c ((x :: r).dropLast) (by omega) _) ?_
   cases hi : iwB ((x :: r).dropLast) with
   | false =>
    refine wX ?_
    exact ret_b (by simp [inB, hb, hi])
   | true =>
    obtain ⟨y, q, hyq⟩ := iw_cons hi
    have hb0 : ((x :: r).dropLast)[0]? = some y := by rw [hyq]; rfl
    have hyl : (bs ((x :: r).dropLast)).size = q.length + 1 := by rw [bs_size, hyq]; rfl
    have hhd : hd ((x :: r).dropLast) = y := by rw [hyq]; rfl
    refine wX ?_
    try refine Nd.mk ⟨by omega, by rw [hyl]; omega⟩ ?_
    refine wX ?_
    rw [show byteAt (bs ((x :: r).dropLast)) (Int.toNat 0) = (y.toNat : Int) from byteAt_get hb0]
    refine call1 (sml_c y _) ?_
    cases hs2 : sml y with
    | false =>
     refine wX ?_
     exact ret_b (by simp [inB, hb, hi, hhd, hs2])
    | true =>
     refine wX ?_
     rw [hz]
     refine ret_b ?_
     simp [inB, hb, hi, hhd, hs2]
     try omega
  | false =>
   refine wX ?_
   rw [hz, hw1]
   refine Nd.mk ⟨by omega, by omega⟩ ?_
   refine wX ?_
   rw [Int.toNat_natCast, byteAt_get hc, h33]
   cases e33 : c == 33 with
   | true =>
    have hb : bareS (x :: r) = (x :: r).dropLast := by simp [bareS, endB, hlast, show c = 33 by simpa using e33]
    refine wX ?_
    rw [hz, hw1]
    refine ReadW.sl_h r.length rfl Tryz.underlying9 rfl rfl ⟨rfl, by omega⟩ ?_
    rw [hdl]
    refine wX ?_
    refine call1 (isWords_c ((x :: r).dropLast) (by omega) _) ?_
    cases hi : iwB ((x :: r).dropLast) with
    | false =>
     refine wX ?_
     exact ret_b (by simp [inB, hb, hi])
    | true =>
     obtain ⟨y, q, hyq⟩ := iw_cons hi
     have hb0 : ((x :: r).dropLast)[0]? = some y := by rw [hyq]; rfl
     have hyl : (bs ((x :: r).dropLast)).size = q.length + 1 := by rw [bs_size, hyq]; rfl
     have hhd : hd ((x :: r).dropLast) = y := by rw [hyq]; rfl
     refine wX ?_
     try refine Nd.mk ⟨by omega, by rw [hyl]; omega⟩ ?_
     refine wX ?_
     rw [show byteAt (bs ((x :: r).dropLast)) (Int.toNat 0) = (y.toNat : Int) from byteAt_get hb0]
     refine call1 (sml_c y _) ?_
     cases hs2 : sml y with
     | false =>
      refine wX ?_
      exact ret_b (by simp [inB, hb, hi, hhd, hs2])
     | true =>
      refine wX ?_
      rw [hz]
      refine ret_b ?_
      simp [inB, hb, hi, hhd, hs2]
      try omega
   | false =>
    have hb : bareS (x :: r) = x :: r := by
     have h1 : ¬ c = 63 := by simpa using e63
     have h2 : ¬ c = 33 := by simpa using e33
     simp [bareS, endB, hlast, h1, h2]
    refine wX ?_
    refine call1 (isWords_c (x :: r) (by omega) _) ?_
    cases hi : iwB (x :: r) with
    | false =>
     refine wX ?_
     exact ret_b (by simp [inB, hb, hi])
    | true =>
     obtain ⟨y, q, hyq⟩ := iw_cons hi
     have hb0 : (x :: r)[0]? = some y := by rw [hyq]; rfl
     have hyl : (bs (x :: r)).size = q.length + 1 := by rw [bs_size, hyq]; rfl
     have hhd : hd (x :: r) = y := by rw [hyq]; rfl
     refine wX ?_
     try refine Nd.mk ⟨by omega, by rw [hyl]; omega⟩ ?_
     refine wX ?_
     rw [show byteAt (bs (x :: r)) (Int.toNat 0) = (y.toNat : Int) from byteAt_get hb0]
     refine call1 (sml_c y _) ?_
     cases hs2 : sml y with
     | false =>
      refine wX ?_
      exact ret_b (by simp [inB, hb, hi, hhd, hs2])
     | true =>
      refine wX ?_
      rw [hz]
      refine ret_b ?_
      simp [inB, hb, hi, hhd, hs2]
      try omega
theorem IsName_c (s : List UInt8) (hs : s.length ≤ 200000000000000) : ∀ H, (∀ w, Facts H w → ScanF w) → SpecH Tryz.prog 50 (pvs [.string (bs s)]) H (Ret (.bool (inB s && !kwB s)) H) := by
 refine factC hm Tryz.func50 (by kernel_rfl) rfl rfl ?_
 refine wX ?_
 refine call1 (isName_c s hs _) ?_
 cases hn : inB s with
 | false =>
  refine wX ?_
  rfl
 | true =>
  have hl : s.length ≤ 40 := by
   simp [inB] at hn
   exact hn.2
  refine wX ?_
  refine call1 (IsKeyword_c s (by omega) _ (fun w hw => hw.1.1)) ?_
  refine wX ?_
  rfl
theorem IsConst_c (s : List UInt8) (hs : s.length ≤ 200000000000000) : ∀ H, SpecH Tryz.prog 63 (pvs [.string (bs s)]) H (Ret (.bool (icB s)) H) := by
 refine pureC hm Tryz.func63 (by kernel_rfl) rfl rfl ?_
 refine wX ?_
 refine call1 (isWords_c s hs _) ?_
 cases hi : iwB s with
 | false =>
  refine wX ?_
  exact ret_b (by simp [icB, hi])
 | true =>
  obtain ⟨y, q, rfl⟩ := iw_cons hi
  have hyl : (bs (y :: q)).size = q.length + 1 := by rw [bs_size]; rfl
  refine wX ?_
  try refine Nd.mk ⟨by omega, by rw [hyl]; omega⟩ ?_
  refine wX ?_
  rw [show byteAt (bs (y :: q)) (Int.toNat 0) = (y.toNat : Int) from byteAt_get (l := y :: q) (i := 0) rfl]
  refine call1 (sml_c y _) ?_
  refine wX ?_
  exact ret_b (by simp [icB, hi, hd])
theorem IsIvar_c (s : List UInt8) (hs : s.length ≤ 200000000000000) : ∀ H, SpecH Tryz.prog 92 (pvs [.string (bs s)]) H (Ret (.bool (iiB s)) H) := by
 refine pureC hm Tryz.func92 (by kernel_rfl) rfl rfl ?_
 have hz := bs_size s
 refine wX ?_
 rw [hz]
 refine brd_dec (fun h1 => ?_) (fun h1 => ?_)
 ·match s, hs, hz, h1 with
  | [], _, _, h1 => exact absurd h1 (by decide)
  | [_], _, _, h1 => exact absurd h1 (by simp)
  | c :: d :: r, hs, hz, h1 =>
   have h64 : ((c.toNat : Int) == 64) = (c == 64) := u8_eq (n := 64) (by decide)
   have hl : (c :: d :: r).length = r.length + 2 := rfl
   refine wX ?_
   try refine Nd.mk ⟨by omega, by rw [hz]; omega⟩ ?_
   refine wX ?_
   rw [show byteAt (bs (c :: d :: r)) (Int.toNat 0) = (c.toNat : Int) from byteAt_get (l := c :: d :: r) (i := 0) rfl, h64]
   cases e64 : c == 64 with
   | false =>
    refine wX ?_
    exact ret_b (by simp only [iiB, hd, List.headD_cons, e64]; simp)
   | true =>
    refine wX ?_
    refine ReadW.sl_l 1 rfl Tryz.underlying9 rfl rfl ⟨rfl, by omega⟩ ?_
    refine wX ?_
    refine call1 (isWords_c (d :: r) (by simp at hs ⊢; omega) _) ?_
    cases hi : iwB (d :: r) with
    | false =>
     refine wX ?_
     exact ret_b (by simp only [iiB, List.tail_cons, hi]; simp)
    | true =>
     refine wX ?_
     try refine Nd.mk ⟨by omega, by rw [hz]; omega⟩ ?_
     refine wX ?_
     rw [show byteAt (bs (c :: d :: r)) (Int.toNat 1) = (d.toNat : Int) from byteAt_get (l := c :: d :: r) (i := 1) rfl]
     refine call1 (sml_c d _) ?_
     cases hs2 : sml d with
     | false =>
      refine wX ?_
      exact ret_b (by simp only [iiB, List.tail_cons, hd, List.headD_cons, hs2]; simp)
     | true =>
      refine wX ?_
      rw [hz]
      refine ret_b ?_
      have hdec : decide (1 < (c :: d :: r).length) = true := by simp
      simp only [iiB, hdec, List.tail_cons, hd, List.headD_cons, hs2, e64, hi]
      simp
      omega
 ·have hdec : decide (1 < s.length) = false := decide_eq_false (by omega)
  refine wX ?_
  exact ret_b (by simp only [iiB, hdec]; simp)
theorem Operators_c : SpecF Tryz.prog 81 [] ScanF fun v G => ∃ b, v = .slice (some ⟨b, 0, none⟩) 16 16 ∧ ∀ w, G w → SlAt (some ⟨b, 0, none⟩) 16 (strsC opL) w := by
 refine specF hm Tryz.func81 (by kernel_rfl) rfl rfl ?_
 refine wX ?_
 refine SpecF.call (Fields_c ops (by decide) (by decide +kernel)) (fun w hw => hw.1) fun v G hR => ?_
 rw [show Lib.fields ops = opL by decide +kernel] at hR
 obtain ⟨b, rfl, hG⟩ := hR
 refine wX ?_
 refine fin_p G ⟨b, rfl, fun w hw => hG w hw⟩ (fun w hw => hw.2.1)
theorem CutEq_c (s : List UInt8) (hs : s.length ≤ 200000000000000) : ∀ H, SpecH Tryz.prog 86 (pvs [.string (bs s), .string (bs [61])]) H (Ret (.tuple #[.string (bs (Lib.trimSuffix s [61])), .bool (Lib.hasSuffix s [61])]) H) := fun H =>
 SpecH.rawP (R := fun r => r = .tuple #[.string (bs (Lib.trimSuffix s [61])), .bool (Lib.hasSuffix s [61])]) (callOk Tryz.func86 (by kernel_rfl) rfl)
  (fun w _ => (Tryz.strings_CutSuffix (bs s) (bs [61]) w (by rw [bs_size]; omega)).mono fun e w' ⟨he, hw⟩ => ⟨_, he, by rw [bs_list, bs_list]; rfl, by subst hw; exact Below.refl _ _⟩) fun r hr => by subst hr; exact ⟨rfl, rfl⟩
theorem IsMethod_c (s : List UInt8) (hs : s.length ≤ 200000000000000) : ∀ H, (∀ w, Facts H w → ScanF w) → SpecH Tryz.prog 65 (pvs [.string (bs s)]) H (Ret (.bool (opL.contains s || inB s || setB s)) H) := by
 refine factC hm Tryz.func65 (by kernel_rfl) rfl rfl ?_
 have hz := bs_size s
 refine wX ?_
 refine SpecF.call Operators_c (fun w hw => hw.1) fun v G hR => ?_
 obtain ⟨b, rfl, hG⟩ := hR
 refine wX ?_
 refine call1 (Contains_c (some ⟨b, 0, none⟩) opL 16 s (fun _ => rfl) (by decide) _ (fun w hw => hG w hw.2.1)) ?_
 cases hc : opL.contains s with
 | true =>
  refine wX ?_
  exact ret_b (by simp)
 | false =>
  refine wX ?_
  refine call1 (isName_c s hs _) ?_
  cases hn : inB s with
  | true =>
   refine wX ?_
   exact ret_b (by simp)
  | false =>
   rw [Bool.false_or, Bool.false_or]
   refine wX ?_
   refine call1 (CutEq_c s hs _) ?_
   cases hsf : Lib.hasSuffix s [61] with
   | false =>
    have hg : (s.getLast? == some 61) = false := by
     unfold Lib.hasSuffix at hsf
     rcases List.eq_nil_or_concat s with rfl | ⟨bb, c, rfl⟩
     ·rfl
     ·rw [List.concat_eq_append] at hsf ⊢
      have h61 : ¬ c = 61 := fun e => by
       subst e
       have := List.isSuffixOf_iff_suffix.2 (List.suffix_append bb [61])
       rw [hsf] at this
       cases this
      simp [h61]
    refine wX ?_
    exact ret_b (by simp [setB, hg])
   | true =>
    obtain ⟨bb, hbb⟩ : ∃ bb, bb ++ [61] = s := List.isSuffixOf_iff_suffix.1 hsf
    have htr : Lib.trimSuffix s [61] = bb := by
     unfold Lib.trimSuffix
     rw [hsf, if_pos rfl, ← hbb]
     simp
    have hdl : s.dropLast = bb := by rw [← hbb]; simp
    have hgl : (s.getLast? == some 61) = true := by rw [← hbb]; simp
    have hbl : bb.length + 1 = s.length := by rw [← hbb]; simp
    rw [htr]
    refine wX ?_
    refine call1 (isWords_c (bb) (by omega) _) ?_
    cases hi : iwB (bb) with
    | false =>
     refine wX ?_
     exact ret_b (by simp [setB, hgl, hdl, hi])
    | true =>
     obtain ⟨y, q, hyq⟩ := iw_cons hi
     have hb0 : (bb)[0]? = some y := by rw [hyq]; rfl
     have hyl : (bs (bb)).size = q.length + 1 := by rw [bs_size, hyq]; rfl
     have hhd : hd (bb) = y := by rw [hyq]; rfl
     refine wX ?_
     try refine Nd.mk ⟨by omega, by rw [hyl]; omega⟩ ?_
     refine wX ?_
     rw [show byteAt (bs (bb)) (Int.toNat 0) = (y.toNat : Int) from byteAt_get hb0]
     refine call1 (sml_c y _) ?_
     cases hs2 : sml y with
     | false =>
      refine wX ?_
      exact ret_b (by simp [setB, hgl, hdl, hi, hhd, hs2])
     | true =>
      refine wX ?_
      rw [hz]
      refine ret_b ?_
      simp [setB, hgl, hdl, hi, hhd, hs2]
      try omega
end Go.Proofs.YtpikpjlhdkkigaaGreatDoor
namespace Go.AX
def isA : Option Ent → Bool
 | some (.app ..) => true
 | _ => false
def swE (H : List Ent) (i j : Nat) : List Ent :=
 match nthE H i, nthE H j with
 | some e, some f => (H.set i f).set j e
 | _, _ => H
theorem Sat.swE {ρ : List Loc} {S : Nat → Prop} {H : List Ent} {w : World} (h : Sat ρ S H w) {i j : Nat} (hi : isA (nthE H i) = true) (hj : isA (nthE H j) = true) (hne : Nat.beq i j = false) : Sat ρ S (swE H i j) w ∧ Ev ρ S H w ρ S (swE H i j) w := by
 unfold AX.swE
 rw [nthE_eq] at hi hj ⊢
 rw [nthE_eq]
 cases hi' : H[i]? with
 | none => rw [hi'] at hi; cases hi
 | some e =>
  cases hj' : H[j]? with
  | none => rw [hj'] at hj; cases hj
  | some f =>
   rw [hi'] at hi
   rw [hj'] at hj
   cases e <;> first | (cases hi; done) | skip
   cases f <;> first | (cases hj; done) | skip
   exact h.swap hi' hj' (Nat.ne_of_beq_eq_false hne)
theorem ReadW.slc_lo {P : Program} {o : Oper} {s : List AV} {H : List Ent} {K : AV → Prop} {t e : TypeId} {x y : Operand} {a : Option Addr} {n cap sz : Nat} {k : IntKind} {i : Int} {inf : TypeInfo} (j n' : Nat) (a' : Option Addr) (ho : o.op = .slice t x (some y) none none) (hu : P.underlying t = some (.slice e)) (hi : P.info? e = some inf) (hs : inf.size = sz)
  (hx : opv s x = .c (.v (.slice a n cap))) (hy : opv s y = .c (.v (.int k i))) (hj : i = (j : Int) ∧ j ≤ n ∧ n ≤ cap) (hn : n - j = n') (ha : (if cap = j then a else a.map (·.add (j * sz))) = a') (h : K (.c (.v (.slice a' n' (cap - j))))) : ReadW P o s H K := by
 obtain ⟨rfl, hjn, hnc⟩ := hj
 subst hn ha hs
 refine ReadW.val _ (fun cs b => by rw [ho]; simp) (by rw [ho]; simp [Op.operands, allPlain, hx, hy]) (fun w _ => ?_) h
 have e1 := plainEv_v hx
 have e2 := plainEv_v hy
 have : (Instr.sliceAt t (.slice a n cap) (some (.int k (j : Int))) none none).run P w = .ok (.slice (if cap = j then a else a.map (·.add (j * inf.size))) (n - j) (cap - j)) w := by
  simp [Instr.sliceAt, Instr.slice, run_underlying hu, Instr.sliceBounds, Instr.sliceBound, asIntOf, hjn, sizeOf, typeInfo, hi]
 refine run_op_slice ho ?_
 rw [e1]
 simpa [e2] using this
end Go.AX
namespace Go.Proofs.YtpikpjlhdkkigaaGreatDoor
open Go.AX Go.RowKit Go.Tree Go.Scan
set_option maxRecDepth 20000
def LsF (a : Option Addr) (l : List TP) (w : World) : Prop := SlAt a (l.length * 4) (nodesC l) w ∧ ∀ k ∈ l, TreeF w k
structure LsK (a : Option Addr) (cap : Nat) (l : List TP) : Prop where
 cap : l.length ≤ cap
 nil : a = none → l = []
 len : l.length ≤ 1048576
 k : ∀ k ∈ l, TreeK k
theorem TreeF.ls {w : World} {t : TP} (h : TreeF w t) : LsF t.a t.kids w := ⟨h.row, fun _ hk => h.kid hk⟩
theorem TreeK.ls {t : TP} (h : TreeK t) : LsK t.a t.cap t.kids := ⟨h.cap, h.nil, h.len, fun _ hk => h.kid hk⟩
theorem LsF.take {a : Option Addr} {l : List TP} {w : World} (h : LsF a l w) (n : Nat) : LsF a (l.take n) w := by
 obtain ⟨⟨h1, h2, h3⟩, h4⟩ := h
 have hl : (l.take n).length ≤ l.length := by rw [List.length_take]; omega
 refine ⟨⟨nodesC_len _, fun hp => h2 (by omega), fun j hj => ?_⟩, fun k hk => h4 k (List.mem_of_mem_take hk)⟩
 rw [h3 j (by omega)]
 have : nodesC l = nodesC (l.take n) ++ nodesC (l.drop n) := by rw [nodesC_app, List.take_append_drop]
 rw [this, List.getElem?_append_left (by rw [nodesC_len]; exact hj)]
theorem LsK.take {a : Option Addr} {cap : Nat} {l : List TP} (h : LsK a cap l) (n : Nat) : LsK a cap (l.take n) := ⟨by have := h.cap; rw [List.length_take]; omega, fun ha => by rw [h.nil ha, List.take_nil], by have := h.len; rw [List.length_take]; omega, fun k hk => h.k k (List.mem_of_mem_take hk)⟩
def Yes (g : Nat) (t : TP) : Prop := ∀ H, (∀ w, Facts H w → ScanF w ∧ TreeF w t) → SpecH Tryz.prog g (pvs [nodeV t]) H (Ret (.bool true) H)
def YesL (g : Nat) (l : List TP) : Prop := ∀ (a : Option Addr) (cap : Nat), LsK a cap l → ∀ H, (∀ w, Facts H w → ScanF w ∧ LsF a l w) → SpecH Tryz.prog g (pvs [.slice a l.length cap]) H (Ret (.bool true) H)
theorem NoIdx_c (g : Nat) (caps : Array Value) (a : Option Addr) (l : List TP) (cap : Nat) (F : World → Prop) (hl : LsK a cap l) (hf : ∀ k ∈ l, ∀ H, (∀ w, Facts H w → ScanF w ∧ TreeF w k ∧ F w) → SpecH Tryz.prog g (pvs [nodeV k] ++ pvs caps.toList) H (Ret (.bool false) H)) :
  ∀ H, (∀ w, Facts H w → ScanF w ∧ LsF a l w ∧ F w) → SpecH Tryz.prog 59 (pvs [.slice a l.length cap, .func (.func g) #[] caps]) H (Ret (.int .i64 (-1)) H) := by
 refine factC hm Tryz.func59 (by kernel_rfl) rfl rfl ?_
 have hll := hl.len
 refine wX ?_
 refine loopS Nat (fun i => i ≤ l.length) (fun i => mkS Tryz.f59.ntmps 0 [(0, .c (.v (.slice a l.length cap))), (1, .c (.v (.func (.func g) #[] caps))), (7, .c (.v (.int .i64 (l.length : Int)))), (8, .c (.v (.int .i64 (i : Int))))]) (fun i => l.length - i) rfl (fun _ => rfl) 0 (Nat.zero_le _) ?_ fun i hi => ?_
 ·exact wKK
 refine wX ?_
 refine brd_dec (fun h1 => ?_) (fun h1 => ?_)
 ·obtain ⟨k, hk⟩ : ∃ k, l[i]? = some k := ⟨_, List.getElem?_eq_getElem (by omega)⟩
  have hsa := isT hl.nil hk
  have hkm := List.mem_of_getElem? hk
  refine wX ?_
  refine Nd.mk ⟨hsa, by omega, by omega⟩ ?_
  refine wX ?_
  refine LdN.agg (nodeC k) rfl (fun w hw => hw.1.2.1.1) rfl (fun j hj => by
   rw [Int.toNat_natCast]
   exact nodesC_get l i j hj hk) ?_
  refine wX ?_
  refine call1 (hf k hkm _ (fun w hw => ⟨hw.1.1, hw.1.2.1.2 k hkm, hw.1.2.2⟩)) ?_
  refine wX ?_
  refine ⟨i + 1, by show i + 1 ≤ _; omega, by show l.length - (i + 1) < l.length - i; omega, ?_, wHH⟩
  exact wKK
 ·exact wZ
theorem NoFn_c (g : Nat) (caps : Array Value) (a : Option Addr) (l : List TP) (cap : Nat) (F : World → Prop) (hl : LsK a cap l) (hf : ∀ k ∈ l, ∀ H, (∀ w, Facts H w → ScanF w ∧ TreeF w k ∧ F w) → SpecH Tryz.prog g (pvs [nodeV k] ++ pvs caps.toList) H (Ret (.bool false) H)) :
  ∀ H, (∀ w, Facts H w → ScanF w ∧ LsF a l w ∧ F w) → SpecH Tryz.prog 44 (pvs [.slice a l.length cap, .func (.func g) #[] caps]) H (Ret (.bool false) H) := by
 refine factC hm Tryz.func44 (by kernel_rfl) rfl rfl ?_
 refine wX ?_
 refine call1 (NoIdx_c g caps a l cap F hl hf _ (fun w hw => hw.1)) ?_
 refine wX ?_
 rfl
theorem unnamed_c (t : TP) (hx : t.name = []) (hn : t.n = 0) : ∀ H, SpecH Tryz.prog 88 (pvs [nodeV t]) H (Ret (.bool true) H) := by
 obtain ⟨o, x, n, a, ks, c⟩ := t
 simp only at hx hn
 subst hx hn
 refine pureC hm Tryz.func88 (by kernel_rfl) rfl rfl ?_
 refine wX ?_
 rfl
theorem leaf_c (t : TP) (hk : t.kids = []) : ∀ H, SpecH Tryz.prog 61 (pvs [nodeV t]) H (Ret (.bool true) H) := by
 obtain ⟨o, x, n, a, ks, c⟩ := t
 simp only at hk
 subst hk
 refine pureC hm Tryz.func61 (by kernel_rfl) rfl rfl ?_
 refine wX ?_
 rfl
theorem bare_c (t : TP) (hx : t.name = []) (hn : t.n = 0) (hk : t.kids = []) : ∀ H, SpecH Tryz.prog 60 (pvs [nodeV t]) H (Ret (.bool true) H) := by
 obtain ⟨o, x, n, a, ks, c⟩ := t
 simp only at hx hn hk
 subst hx hn hk
 refine pureC hm Tryz.func60 (by kernel_rfl) rfl rfl ?_
 refine wX ?_
 refine call1 (leaf_c ⟨o, [], 0, a, [], c⟩ rfl _) ?_
 refine wX ?_
 rfl
def exOp (o : Int) : Prop := 0 ≤ o ∧ o ≤ 46 ∧ o ≠ 22 ∧ o ≠ 23 ∧ o ≠ 24 ∧ o ≠ 41 ∧ o ≠ 42
theorem Expr_c (o : Int) (h : exOp o) : ∀ H, SpecH Tryz.prog 113 (pvs [.int .i64 o]) H (Ret (.bool true) H) := by
 refine pureC hm Tryz.func113 (by kernel_rfl) rfl rfl ?_
 obtain ⟨h0, h1, h2, h3, h4, h5, h6⟩ := h
 refine wX ?_
 repeat' (refine brd_eq (fun h => by omega) (fun _ => ?_); (first | refine wX ?_ | exact wZ))
 refine brd_dec (fun _ => ?_) (fun h => by omega)
 refine wX ?_
 exact ret_b (by simp; omega)
theorem V.exOp {t : TP} (h : V .ex t) : exOp t.op := by
 cases h <;> (refine ⟨?_, ?_, ?_, ?_, ?_, ?_, ?_⟩ <;> (dsimp only; omega))
theorem usings_c : ∀ t : TP, TreeK t → t.sz ≤ 1000000 → ∀ H, (∀ w, Facts H w → TreeF w t) → SpecH Tryz.prog 21 (pvs [nodeV t]) H (Ret (.int .i64 (t.us : Int)) H) := by
 refine TP.ind fun t ih ht hs => ?_
 refine factC hm Tryz.func21 (by kernel_rfl) rfl rfl ?_
 have hl := ht.len
 have hsz := sz_eq t
 have hue := us_eq t
 have hus : ∀ l : List TP, uss l ≤ szs l := fun l => by
  induction l with
  | nil => exact Nat.le_refl _
  | cons k l ihl =>
   have hk : k.us ≤ k.sz := TP.ind (P := fun k => k.us ≤ k.sz) (fun k ihk => by
    rw [us_eq, sz_eq]
    have : ∀ m : List TP, (∀ q ∈ m, q.us ≤ q.sz) → uss m ≤ szs m := fun m hm => by
     induction m with
     | nil => exact Nat.le_refl _
     | cons q m ihm =>
      have h1 := hm q (List.mem_cons_self ..)
      have h2 := ihm fun p hp => hm p (List.mem_cons_of_mem _ hp)
      rw [uss, szs]
      omega
    have := this k.kids ihk
    split <;> omega) k
   rw [uss, szs]
   omega
 obtain ⟨z, hzd⟩ : ∃ z : Nat, (if t.op = 45 then 1 else 0) = z := ⟨_, rfl⟩
 have hz1 : z ≤ 1 := by rw [← hzd]; split <;> omega
 rw [hzd] at hue
 refine wX ?_
 refine brd_eq (fun h0 => ?_) (fun h0 => ?_)
 ·obtain rfl : z = 1 := by rw [← hzd, if_pos h0]
  refine wX ?_
  refine loopS Nat (fun i => i ≤ t.kids.length) (fun i => mkS Tryz.f21.ntmps 0 [(1, .c (.lp 1 0)), (2, .c (.v (.int .i64 0))), (3, .c (.v (.int .i64 ((1 + uss (t.kids.take i) : Nat) : Int)))), (10, .c (.v (.slice t.a t.kids.length t.cap))), (11, .c (.v (.int .i64 (t.kids.length : Int)))), (12, .c (.v (.int .i64 (i : Int))))]) (fun i => t.kids.length - i) rfl (fun _ => rfl) 0 (Nat.zero_le _) ?_ fun i hi => ?_
  ·exact wKK
  have hti : uss (t.kids.take i) ≤ 1000000 := by have h1 := hus (t.kids.take i); have h2 := szs_take t.kids i; omega
  refine wX ?_
  refine brd_dec (fun h1 => ?_) (fun h1 => ?_)
  ·obtain ⟨k, hk⟩ : ∃ k, t.kids[i]? = some k := ⟨_, List.getElem?_eq_getElem (by omega)⟩
   have hsa := kid_some ht hk
   have hkm := List.mem_of_getElem? hk
   have hks := sz_kid hkm
   have htk := take_uss hk
   have hti1 : uss (t.kids.take (i + 1)) ≤ 1000000 := by have h1 := hus (t.kids.take (i + 1)); have h2 := szs_take t.kids (i + 1); omega
   refine wX ?_
   refine Nd.mk ⟨hsa, by omega, by omega⟩ ?_
   refine wX ?_
   refine LdN.agg (nodeC k) rfl (fun w hw => hw.1.row) rfl (fun j hj => by rw [Int.toNat_natCast]; exact nodesC_get t.kids i j hj hk) ?_
   refine wX ?_
   refine call1 (ih k hkm (ht.kid hkm) (by omega) _ (fun w hw => hw.1.kid hkm)) ?_
   refine wX ?_
   refine ⟨i + 1, by show i + 1 ≤ _; omega, by show t.kids.length - (i + 1) < t.kids.length - i; omega, ?_, wHH⟩
   (repeat' (first | exact trivial | refine And.intro (by with_reducible rfl) ?_ | (with_reducible exact wkC_refl _) | (with_reducible exact wkCs_refl _) | refine And.intro ?_ ?_))
   all_goals first | rfl | exact av_int (by omega) | exact av_int (by rw [wrap_i64 (by omega)]; omega)
  ·have hie : i = t.kids.length := by omega
   rw [hie, List.take_length]
   refine wX ?_
   rw [hue]
 ·obtain rfl : z = 0 := by rw [← hzd, if_neg h0]
  refine wX ?_
  refine loopS Nat (fun i => i ≤ t.kids.length) (fun i => mkS Tryz.f21.ntmps 0 [(1, .c (.lp 1 0)), (2, .c (.v (.int .i64 0))), (3, .c (.v (.int .i64 ((0 + uss (t.kids.take i) : Nat) : Int)))), (10, .c (.v (.slice t.a t.kids.length t.cap))), (11, .c (.v (.int .i64 (t.kids.length : Int)))), (12, .c (.v (.int .i64 (i : Int))))]) (fun i => t.kids.length - i) rfl (fun _ => rfl) 0 (Nat.zero_le _) ?_ fun i hi => ?_
  ·exact wKK
  have hti : uss (t.kids.take i) ≤ 1000000 := by have h1 := hus (t.kids.take i); have h2 := szs_take t.kids i; omega
  refine wX ?_
  refine brd_dec (fun h1 => ?_) (fun h1 => ?_)
  ·obtain ⟨k, hk⟩ : ∃ k, t.kids[i]? = some k := ⟨_, List.getElem?_eq_getElem (by omega)⟩
   have hsa := kid_some ht hk
   have hkm := List.mem_of_getElem? hk
   have hks := sz_kid hkm
   have htk := take_uss hk
   have hti1 : uss (t.kids.take (i + 1)) ≤ 1000000 := by have h1 := hus (t.kids.take (i + 1)); have h2 := szs_take t.kids (i + 1); omega
   refine wX ?_
   refine Nd.mk ⟨hsa, by omega, by omega⟩ ?_
   refine wX ?_
   refine LdN.agg (nodeC k) rfl (fun w hw => hw.1.row) rfl (fun j hj => by rw [Int.toNat_natCast]; exact nodesC_get t.kids i j hj hk) ?_
   refine wX ?_
   refine call1 (ih k hkm (ht.kid hkm) (by omega) _ (fun w hw => hw.1.kid hkm)) ?_
   refine wX ?_
   refine ⟨i + 1, by show i + 1 ≤ _; omega, by show t.kids.length - (i + 1) < t.kids.length - i; omega, ?_, wHH⟩
   (repeat' (first | exact trivial | refine And.intro (by with_reducible rfl) ?_ | (with_reducible exact wkC_refl _) | (with_reducible exact wkCs_refl _) | refine And.intro ?_ ?_))
   all_goals first | rfl | exact av_int (by omega) | exact av_int (by rw [wrap_i64 (by omega)]; omega)
  ·have hie : i = t.kids.length := by omega
   rw [hie, List.take_length]
   refine wX ?_
   rw [hue]
def leftE (lb : Nat) (z : Int) : Ent := .app 3 1 [.int .i64 z] (some ⟨lb, 0, none⟩) 1 1
def Fit (z d : Int) (l : List TP) : Prop := (szs l : Int) ≤ z ∧ ∀ k ∈ l, d + k.dp ≤ 61
def SmallC (t : TP) : Prop := TreeK t → ∀ (lb : Nat) (z d : Int), 0 ≤ z ∧ z ≤ 1000000 → 1 ≤ d ∧ d ≤ 1000 → ∀ A : World → Prop, (∀ w, A w → TreeF w t) →
 SpecH Tryz.prog 19 (pvs [nodeV t, .pointer (some ⟨lb, 0, none⟩), .int .i64 d]) [.fact A, leftE lb z]
  (RetG (ι := Bool × Int) (fun i => (i.1 = true ↔ Fit z d [t]) ∧ (i.1 = true → i.2 = z - t.sz) ∧ -1 ≤ i.2 ∧ i.2 ≤ z) (fun i => .bool i.1) fun i => [.fact A, leftE lb i.2])
def smE (A : World → Prop) (pb db lb : Nat) (d z : Int) : List Ent := [.fact A, .app 63 1 [.pointer (some ⟨lb, 0, none⟩)] (some ⟨pb, 0, none⟩) 1 1, .app 3 1 [.int .i64 d] (some ⟨db, 0, none⟩) 1 1, leftE lb z]
theorem smalln_c (t : TP) (hc : SmallC t) (ht : TreeK t) (pb db lb : Nat) (z d : Int) (hz : 0 ≤ z ∧ z ≤ 1000000) (hd : 1 ≤ d ∧ d < 1000) (A : World → Prop) (hA : ∀ w, A w → TreeF w t) :
  SpecH Tryz.prog 45 (pvs [nodeV t, .pointer (some ⟨pb, 0, none⟩), .pointer (some ⟨db, 0, none⟩)]) (smE A pb db lb d z)
   (RetG (ι := Bool × Int) (fun i => (i.1 = true ↔ ¬ Fit z (d + 1) [t]) ∧ (i.1 = false → i.2 = z - t.sz) ∧ -1 ≤ i.2 ∧ i.2 ≤ z) (fun i => .bool i.1) fun i => smE A pb db lb d i.2) := by
 refine ownC hm Tryz.func45 (by kernel_rfl) rfl rfl (fun _ _ => okHB_eq rfl) (fun _ _ => Nat.le_of_ble_eq_true rfl) ?_
 refine wX ?_
 refine LdN.one (a := some ⟨pb, 0, none⟩) (q := 0) (.pointer (some ⟨lb, 0, none⟩)) rfl (fun w hw => hw.2.1) rfl ?_
 refine wX ?_
 refine LdN.one (a := some ⟨db, 0, none⟩) (q := 0) (.int .i64 d) rfl (fun w hw => hw.2.2.1) rfl ?_
 refine wX ?_
 have hw1 : IntKind.i64.wrap (d + 1) = d + 1 := wrap_i64 (by omega)
 rw [hw1]
 refine callG (hc ht lb z (d + 1) hz ⟨by omega, by omega⟩ A hA) [0, 3] rfl ⟨rfl, rfl, trivial⟩ rfl fun i hi => ?_
 obtain ⟨b, z'⟩ := i
 obtain ⟨h1, h2, h3, h4⟩ := hi
 refine wX ?_
 refine ⟨(!b, z'), ⟨?_, fun h => h2 (by simpa using h), h3, h4⟩, rfl, ⟨wkE_refl _, wkE_refl _, wkE_refl _, wkE_refl _, wkH_nil _⟩⟩
 rw [← h1]
 cases b <;> simp
structure SmS where
 i : Nat
 z : Int
theorem Fit.cons {z d : Int} {k : TP} {l : List TP} : Fit z d (k :: l) ↔ Fit z d [k] ∧ Fit (z - k.sz) d l := by
 unfold Fit
 simp only [szs, List.mem_cons, List.not_mem_nil, or_false, forall_eq, forall_eq_or_imp]
 constructor
 ·rintro ⟨h1, h2, h3⟩
  exact ⟨⟨by omega, h2⟩, by omega, h3⟩
 ·rintro ⟨⟨h1, h2⟩, h3, h4⟩
  exact ⟨by omega, h2, h4⟩
theorem Fit.nil {z d : Int} (h : 0 ≤ z) : Fit z d [] := ⟨by show ((0 : Nat) : Int) ≤ z; omega, fun k hk => by cases hk⟩
set_option maxHeartbeats 4000000 in
theorem smallI_c (a : Option Addr) (l : List TP) (cap : Nat) (hl : LsK a cap l) (hc : ∀ k ∈ l, SmallC k) (pb db lb : Nat) (z d : Int) (hz : 0 ≤ z ∧ z ≤ 1000000) (hd : 1 ≤ d ∧ d < 1000) (A : World → Prop) (hA : ∀ w, A w → LsF a l w) :
  SpecH Tryz.prog 59 (pvs [.slice a l.length cap, .func (.func 45) #[] #[.pointer (some ⟨pb, 0, none⟩), .pointer (some ⟨db, 0, none⟩)]]) (smE A pb db lb d z)
   (RetG (ι := Int × Int) (fun i => (0 ≤ i.1 ↔ ¬ Fit z (d + 1) l) ∧ (i.1 < 0 → i.2 = z - szs l) ∧ -1 ≤ i.2 ∧ i.2 ≤ z) (fun i => .int .i64 i.1) fun i => smE A pb db lb d i.2) := by
 refine ownC hm Tryz.func59 (by kernel_rfl) rfl rfl (fun _ _ => okHB_eq rfl) (fun _ _ => Nat.le_of_ble_eq_true rfl) ?_
 have hll := hl.len
 refine wX ?_
 refine LoopN.intro SmS (fun ⟨i, z'⟩ => i ≤ l.length ∧ z' = z - szs (l.take i) ∧ 0 ≤ z' ∧ (Fit z (d + 1) l ↔ Fit z' (d + 1) (l.drop i)))
  (fun ⟨i, _⟩ => mkS Tryz.f59.ntmps 0 [(0, .c (.v (.slice a l.length cap))), (1, .c (.v (.func (.func 45) #[] #[.pointer (some ⟨pb, 0, none⟩), .pointer (some ⟨db, 0, none⟩)]))), (7, .c (.v (.int .i64 (l.length : Int)))), (8, .c (.v (.int .i64 (i : Int))))])
  (fun ⟨_, z'⟩ => smE A pb db lb d z') (fun ⟨i, _⟩ => l.length - i) [] rfl (fun _ => rfl) (fun _ => rfl) (fun _ _ => okHB_eq rfl)
  ⟨⟨0, z⟩, ⟨Nat.zero_le _, by simp [szs], hz.1, Iff.rfl⟩, ?_, wkH_refl _⟩ ?_
 ·exact wKK
 rintro ⟨i, z'⟩ ⟨hi, hz', hz0, hfit⟩
 refine wX ?_
 refine brd_dec (fun h1 => ?_) (fun h1 => ?_)
 ·obtain ⟨k, hk⟩ : ∃ k, l[i]? = some k := ⟨_, List.getElem?_eq_getElem (by omega)⟩
  have hsa := isT hl.nil hk
  have hkm := List.mem_of_getElem? hk
  have hts := take_szs hk
  have hdr : l.drop i = k :: l.drop (i + 1) := by
   obtain ⟨h1, h2⟩ := List.getElem?_eq_some_iff.1 hk
   rw [List.drop_eq_getElem_cons h1, h2]
  rw [hdr] at hfit
  refine wX ?_
  refine Nd.mk ⟨hsa, by omega, by omega⟩ ?_
  refine wX ?_
  refine LdN.agg (nodeC k) rfl (fun w hw => (hA w hw.1).1) rfl (fun j hj => by rw [Int.toNat_natCast]; exact nodesC_get l i j hj hk) ?_
  refine wX ?_
  refine callG (smalln_c k (hc k hkm) (hl.k k hkm) pb db lb z' d ⟨hz0, by omega⟩ hd A (fun w hw => (hA w hw).2 k hkm)) [0, 1, 2, 3] rfl ⟨rfl, rfl, rfl, rfl, trivial⟩ rfl fun r hr => ?_
  obtain ⟨b, z2⟩ := r
  obtain ⟨r1, r2, r3, r4⟩ := hr
  cases b with
  | true =>
   refine wX ?_
   refine ⟨((i : Int), z2), ⟨⟨fun _ hf => ?_, fun _ => by show (0 : Int) ≤ (i : Int); omega⟩, fun h => by have h : (i : Int) < 0 := h; omega, r3, by show z2 ≤ z; simp only at r4; omega⟩, rfl, wkH_refl _⟩
   exact r1.1 rfl (Fit.cons.1 (hfit.1 hf)).1
  | false =>
   have hk1 : Fit z' (d + 1) [k] := Classical.byContradiction fun h => by cases r1.2 h
   have hz2 : z2 = z' - k.sz := r2 rfl
   have hkz : (szs [k] : Int) ≤ z' := hk1.1
   have hkz2 : szs [k] = k.sz := by simp [szs]
   refine wX ?_
   refine ⟨⟨i + 1, z2⟩, ⟨by omega, by rw [hz2, hts, hz']; omega, by omega, ?_⟩, by show l.length - (i + 1) < l.length - i; omega, ?_, wkH_refl _⟩
   ·rw [hfit, Fit.cons, hz2]
    exact ⟨fun h => h.2, fun h => ⟨hk1, h⟩⟩
   ·exact wKK
 ·have hie : i = l.length := by omega
  subst hie
  rw [List.drop_length] at hfit
  rw [List.take_length] at hz'
  refine wX ?_
  refine ⟨(-1, z'), ⟨⟨fun h => absurd h (by show ¬ (0 : Int) ≤ -1; decide), fun h => absurd (hfit.2 (Fit.nil hz0)) h⟩, fun _ => hz', by show -1 ≤ z'; omega, by show z' ≤ z; omega⟩, rfl, wkH_refl _⟩
theorem smallF_c (a : Option Addr) (l : List TP) (cap : Nat) (hl : LsK a cap l) (hc : ∀ k ∈ l, SmallC k) (pb db lb : Nat) (z d : Int) (hz : 0 ≤ z ∧ z ≤ 1000000) (hd : 1 ≤ d ∧ d < 1000) (A : World → Prop) (hA : ∀ w, A w → LsF a l w) :
  SpecH Tryz.prog 44 (pvs [.slice a l.length cap, .func (.func 45) #[] #[.pointer (some ⟨pb, 0, none⟩), .pointer (some ⟨db, 0, none⟩)]]) (smE A pb db lb d z)
   (RetG (ι := Bool × Int) (fun i => (i.1 = true ↔ ¬ Fit z (d + 1) l) ∧ (i.1 = false → i.2 = z - szs l) ∧ -1 ≤ i.2 ∧ i.2 ≤ z) (fun i => .bool i.1) fun i => smE A pb db lb d i.2) := by
 refine ownC hm Tryz.func44 (by kernel_rfl) rfl rfl (fun _ _ => okHB_eq rfl) (fun _ _ => Nat.le_of_ble_eq_true rfl) ?_
 refine wX ?_
 refine callG (smallI_c a l cap hl hc pb db lb z d hz hd A hA) [0, 1, 2, 3] rfl ⟨rfl, rfl, rfl, rfl, trivial⟩ rfl fun r hr => ?_
 obtain ⟨n, z2⟩ := r
 obtain ⟨r1, r2, r3, r4⟩ := hr
 refine wX ?_
 refine ⟨(decide (n ≥ 0), z2), ⟨?_, fun h => r2 (by have : ¬ n ≥ 0 := of_decide_eq_false h; show n < 0; omega), r3, r4⟩, rfl, wkH_refl _⟩
 rw [← r1]
 simp
set_option maxHeartbeats 4000000 in
theorem small_c : ∀ t, SmallC t := by
 refine TP.ind fun t ih ht lb z d hz hd A hA => ?_
 refine ownC hm Tryz.func19 (by kernel_rfl) rfl rfl (fun _ _ => okHB_eq rfl) (fun _ _ => Nat.le_of_ble_eq_true rfl) ?_
 have hsz := sz_eq t
 have hdp := dp_eq t
 have hs1 : szs [t] = t.sz := by simp [szs]
 have hfit : Fit z d [t] ↔ 1 ≤ z ∧ d ≤ 60 ∧ Fit (z - 1) (d + 1) t.kids := by
  unfold Fit
  rw [hs1]
  constructor
  ·rintro ⟨h1, h2⟩
   have h3 := h2 t (List.mem_singleton.2 rfl)
   refine ⟨by omega, by omega, by omega, fun k hk => ?_⟩
   have := dps_mem hk
   omega
  ·rintro ⟨h1, h2, h3, h4⟩
   refine ⟨by omega, fun k hk => ?_⟩
   rw [List.mem_singleton.1 hk]
   have : ∀ l : List TP, (∀ k ∈ l, d + 1 + (k.dp : Int) ≤ 61) → d + 1 + (dps l : Int) ≤ 61 := fun l hl => by
    induction l with
    | nil => show d + 1 + ((0 : Nat) : Int) ≤ 61; omega
    | cons k l ihl =>
     have a1 := hl k (List.mem_cons_self ..)
     have a2 := ihl fun q hq => hl q (List.mem_cons_of_mem _ hq)
     rw [dps]
     omega
   have := this t.kids h4
   omega
 (conv => whnf)
 refine BoxN.own ?_
 (conv => whnf)
 refine BoxN.known [.pointer (some ⟨lb, 0, none⟩)] rfl fun pb => ?_
 (conv => whnf)
 refine BoxN.known [.int .i64 d] rfl fun db => ?_
 refine wX ?_
 have hw1 : IntKind.i64.wrap (z - 1) = z - 1 := wrap_i64 (by omega)
 refine LdN.one (a := some ⟨pb, 0, none⟩) (q := 0) (.pointer (some ⟨lb, 0, none⟩)) rfl (fun w hw => hw.2.2.1) rfl ?_
 refine wX ?_
 refine LdN.one (a := some ⟨lb, 0, none⟩) (q := 0) (.int .i64 z) rfl (fun w hw => hw.2.1) rfl ?_
 refine wX ?_
 refine EffW.appTo (i := 1) (q := 0) (ys := [_]) [.int .i64 (z - 1)] 1 rfl rfl rfl rfl rfl rfl rfl (Nat.le_of_ble_eq_true rfl) (by rw [hw1]; rfl) rfl ?_
 refine wX ?_
 refine LdN.one (a := some ⟨pb, 0, none⟩) (q := 0) (.pointer (some ⟨lb, 0, none⟩)) rfl (fun w hw => hw.2.2.1) rfl ?_
 refine wX ?_
 refine LdN.one (a := some ⟨lb, 0, none⟩) (q := 0) (.int .i64 (z - 1)) rfl (fun w hw => hw.2.1) rfl ?_
 refine wX ?_
 refine brd_dec (fun h1 => ?_) (fun h1 => ?_)
 ·refine wX ?_
  refine ⟨(false, z - 1), ⟨⟨fun h => (by cases h), fun h => absurd (hfit.1 h).1 (by omega)⟩, (fun h => by cases h), by show -1 ≤ z - 1; omega, by show z - 1 ≤ z; omega⟩, rfl, ⟨wkE_refl _, wkE_refl _, wkH_nil _⟩⟩
 refine wX ?_
 refine LdN.one (a := some ⟨db, 0, none⟩) (q := 0) (.int .i64 d) rfl (fun w hw => hw.2.2.2.1) rfl ?_
 refine wX ?_
 refine brd_dec (fun h2 => ?_) (fun h2 => ?_)
 ·refine wX ?_
  refine ⟨(false, z - 1), ⟨⟨fun h => (by cases h), fun h => absurd (hfit.1 h).2.1 (by omega)⟩, (fun h => by cases h), by show -1 ≤ z - 1; omega, by show z - 1 ≤ z; omega⟩, rfl, ⟨wkE_refl _, wkE_refl _, wkH_nil _⟩⟩
 refine wX ?_
 refine SpecH.args (args' := pvs [.slice t.a t.kids.length t.cap, .func (.func 45) #[] #[.pointer (some ⟨pb, 0, none⟩), .pointer (some ⟨db, 0, none⟩)]]) (by simp [pvs, opvs, opv, nth, plainEv]; try rfl) ?_
 refine callG (smallF_c t.a t.kids t.cap ht.ls ih pb db lb (z - 1) d ⟨by omega, by omega⟩ ⟨by omega, by omega⟩ A (fun w hw => (hA w hw).ls)) [0, 3, 4, 1] rfl ⟨rfl, rfl, rfl, rfl, trivial⟩ rfl fun r hr => ?_
 obtain ⟨b, z2⟩ := r
 obtain ⟨r1, r2, r3, r4⟩ := hr
 refine wX ?_
 refine ⟨(!b, z2), ⟨?_, fun h => ?_, r3, by show z2 ≤ z; simp only at r4; omega⟩, rfl, ⟨wkE_refl _, wkE_refl _, wkH_nil _⟩⟩
 ·rw [hfit]
  cases b with
  | true => exact ⟨fun h => (by cases h), fun h => absurd h.2.2 (r1.1 rfl)⟩
  | false => exact ⟨fun _ => ⟨by omega, by omega, Classical.byContradiction fun h => by cases r1.2 h⟩, fun _ => rfl⟩
 ·have : b = false := by simpa using h
  have := r2 this
  simp only at this
  show z2 = z - t.sz
  omega
end Go.Proofs.YtpikpjlhdkkigaaGreatDoor
namespace Go.AX
theorem SpecH.turnK {P : Program} {f : FuncId} {args : List AV} {H : List Ent} {K : Out → List Ent → Prop} (h : SpecH P f args H fun out H' => ∃ G, TurnS H' G ∧ K out G) : SpecH P f args H K :=
 ⟨h.ok, fun ρ S w vs hs hr => (h.run ρ S w vs hs hr).mono fun e w' ⟨ρ2, S2, H2, out, a1, a2, a3, G, t, hK⟩ => by
  obtain ⟨S3, hs3, ev⟩ := t.2 ρ2 S2 w' a1
  exact ⟨ρ2, S3, G, out, hs3, a2.trans ev, a3, hK⟩⟩
theorem ownT {P : Program} (hm : P.follows .mixedOrders = true) {f : FuncId} {fn : Func} {c : Code} (hf : P.funcs[f]? = some fn) (hn : (fn.name == "runtime.NumGoroutine") = false) (hb : fn.body = some c)
  {args : List AV} {H : List Ent} (hl : Nat.ble args.length fn.ntmps = true) {ι : Type} {inv : ι → Prop} {val : ι → Value} {G : ι → List Ent} (hok : ∀ i, inv i → okH (G i).length (G i)) (hl2 : ∀ i, inv i → H.length ≤ (G i).length)
  (h : initK fn.ntmps args fun s => exec P c s H (endK P fn.results.toList fun out H' => ∃ J, TurnS H' J ∧ ∃ i, inv i ∧ out = .val (.c (.v (val i))) ∧ wkH J (G i))) : SpecH P f args H (RetG inv val G) :=
 SpecH.wkG hok hl2 (SpecH.turnK (spec_of_exec hm hf hn hb hl h))
end Go.AX
namespace Go.Proofs.YtpikpjlhdkkigaaGreatDoor
open Go.AX Go.RowKit Go.Tree Go.Scan
set_option maxRecDepth 20000
structure ScD where
 b : Nat
 na : Option Nat
 nc : Nat
 ar : Option Nat
 l : List (List UInt8)
def nmS (sc : List ScD) : Nm := sc.map ScD.l
def ptrO (o : Option Nat) : Value := .pointer (o.map fun b => ⟨b, 0, none⟩)
def scoC (i : Nat) (d : ScD) : List Value := [.int .i64 (i : Int), .slice (at0 d.na) d.l.length d.nc, ptrO d.ar]
def rowS (i : Nat) (d : ScD) : RowD := ⟨61, 3, 1, scoC i d, d.b, 1⟩
def rowN (d : ScD) : List RowD := optRow 9 1 d.l.length (strsC d.l) d.na d.nc
def rows1 : Nat → List ScD → List RowD
 | _, [] => []
 | i, d :: r => rowS i d :: rows1 (i + 1) r
def rows2 (sc : List ScD) : List RowD := sc.flatMap rowN
theorem rows1_app (l m : List ScD) : ∀ i, rows1 i (l ++ m) = rows1 i l ++ rows1 (i + l.length) m := by
 induction l with
 | nil => intro i; simp [rows1]
 | cons d l ih =>
  intro i
  rw [List.cons_append, rows1, ih, rows1, List.length_cons, List.cons_append, show i + 1 + l.length = i + (l.length + 1) by omega]
theorem split_at {α : Type} {l : List α} {s : Nat} {d : α} (h : l[s]? = some d) : ∃ u v, l = u ++ d :: v ∧ u.length = s ∧ ∀ d', l.set s d' = u ++ d' :: v := by
 obtain ⟨h1, h2⟩ := List.getElem?_eq_some_iff.1 h
 refine ⟨l.take s, l.drop (s + 1), ?_, by rw [List.length_take]; omega, fun d' => ?_⟩
 ·rw [← h2, ← List.drop_eq_getElem_cons h1, List.take_append_drop]
 ·rw [List.set_eq_take_append_cons_drop, if_pos h1]
theorem rows_split {sc : List ScD} {s : Nat} {d : ScD} (h : sc[s]? = some d) : ∃ R1 R2 : List RowD, (rows1 0 sc).Perm (rowS s d :: R1) ∧ (rows2 sc).Perm (rowN d ++ R2) ∧ ∀ d', (rows1 0 (sc.set s d')).Perm (rowS s d' :: R1) ∧ (rows2 (sc.set s d')).Perm (rowN d' ++ R2) := by
 obtain ⟨u, v, rfl, hu, hset⟩ := split_at h
 have h1 : ∀ e, (rows1 0 (u ++ e :: v)).Perm (rowS s e :: (rows1 0 u ++ rows1 (s + 1) v)) := fun e => by
  rw [rows1_app, Nat.zero_add, hu]
  exact List.perm_middle
 have h2 : ∀ e, (rows2 (u ++ e :: v)).Perm (rowN e ++ (rows2 u ++ rows2 v)) := fun e => by
  unfold rows2
  rw [List.flatMap_append, List.flatMap_cons]
  rw [← List.append_assoc, ← List.append_assoc]
  exact List.Perm.append_right _ List.perm_append_comm
 exact ⟨_, _, h1 d, h2 d, fun d' => by rw [hset]; exact ⟨h1 d', h2 d'⟩⟩
def ScoF (sc : List ScD) (w : World) : Prop := ∀ s d, sc[s]? = some d → SlAt (some ⟨d.b, 0, none⟩) 3 (scoC s d) w ∧ SlAt (at0 d.na) d.l.length (strsC d.l) w
structure ScOk (d : ScD) : Prop where
 nil : d.na = none → d.l = [] ∧ d.nc = 0
 cap : d.l.length ≤ d.nc
 len : d.l.length ≤ 100000
theorem rows1_mem {sc : List ScD} {s : Nat} {d : ScD} (h : sc[s]? = some d) : rowS s d ∈ rows1 0 sc := by
 obtain ⟨R1, R2, h1, _, _⟩ := rows_split h
 exact h1.mem_iff.2 (List.mem_cons_self ..)
theorem scF_of {sc : List ScD} {w : World} (hok : ∀ d ∈ sc, ScOk d) (h1 : famF (rows1 0 sc) w) (h2 : famF (rows2 sc) w) : ScoF sc w := fun s d hd => by
 have hm := List.mem_of_getElem? hd
 refine ⟨(h1.2 _ (rows1_mem hd)).sl, ?_⟩
 cases hn : d.na with
 | none =>
  rw [((hok d hm).nil hn).1]
  exact SlAt.nil
 | some b =>
  have := (h2.2 ⟨9, 1, d.l.length, strsC d.l, b, d.nc⟩ (List.mem_flatMap.2 ⟨d, hm, by unfold rowN; rw [hn]; exact List.mem_singleton.2 rfl⟩)).sl
  show SlAt (some ⟨b, 0, none⟩) _ _ _
  simpa using this
def ChP (sc : List ScD) : List Nat → Option Nat → Prop
 | [], o => o = none
 | s :: r, o => ∃ d, sc[s]? = some d ∧ o = some d.b ∧ ChP sc r d.ar
theorem nm_at {sc : List ScD} {s : Nat} {d : ScD} (h : sc[s]? = some d) : namesAt (nmS sc) s = d.l := by
 unfold namesAt nmS
 rw [List.getD_eq_getElem?_getD, List.getElem?_map, h]
 rfl
def ixO : Option Nat → Int
 | some i => i
 | none => -1
theorem idx_take {x : List UInt8} : ∀ {l : List (List UInt8)} {i : Nat} {t : List UInt8}, l[i]? = some t → (l.take i).idxOf? x = none → t = x → l.idxOf? x = some i
 | [], i, t, h, _, _ => by cases h
 | y :: l, 0, t, h, _, e => by
  obtain rfl := Option.some.inj h
  rw [List.idxOf?_cons, e]
  simp
 | y :: l, i + 1, t, h, hn, e => by
  rw [List.take_succ_cons, List.idxOf?_cons] at hn
  rw [List.idxOf?_cons]
  split at hn
  ·cases hn
  ·rename_i hyx
   rw [if_neg hyx]
   have hn' : (l.take i).idxOf? x = none := by simpa using hn
   rw [idx_take (l := l) (i := i) (t := t) h hn' e]
   rfl
theorem IndexS_c (a : Option Addr) (l : List (List UInt8)) (cap : Nat) (s : List UInt8) (ha : l ≠ [] → a.isSome = true) (hl : l.length ≤ 1000000) :
  ∀ H, (∀ w, Facts H w → SlAt a l.length (strsC l) w) → SpecH Tryz.prog 78 (pvs [.slice a l.length cap, .string (bs s)]) H (Ret (.int .i64 (ixO (l.idxOf? s))) H) := by
 refine factC hm Tryz.func78 (by kernel_rfl) rfl rfl ?_
 refine wX ?_
 refine loopS Nat (fun i => i ≤ l.length ∧ (l.take i).idxOf? s = none) (fun i => mkS Tryz.f78.ntmps 0 [(0, .c (.v (.slice a l.length cap))), (1, .c (.v (.string (bs s)))), (7, .c (.v (.int .i64 (l.length : Int)))), (8, .c (.v (.int .i64 (i : Int))))]) (fun i => l.length - i) rfl (fun _ => rfl) 0 ⟨Nat.zero_le _, by simp⟩ ?_ ?_
 ·exact wKK
 intro i ⟨hi, hno⟩
 refine wX ?_
 refine brd_dec (fun h1 => ?_) (fun h1 => ?_)
 ·obtain ⟨t, ht⟩ : ∃ t, l[i]? = some t := ⟨_, List.getElem?_eq_getElem (by omega)⟩
  have hsa : a.isSome = true := ha (fun h => by rw [h] at ht; cases ht)
  refine wX ?_
  refine Nd.mk ⟨hsa, by omega, by omega⟩ ?_
  refine wX ?_
  refine LdN.one (.string (bs t)) rfl (fun w hw => hw.1) (by show (strsC l)[Int.toNat _ * 1]? = _; rw [Int.toNat_natCast, Nat.mul_one]; exact strsC_get ht) ?_
  refine wX ?_
  refine brd_intro (fun h2 => ?_) (fun h2 => ?_)
  ·have h3 : s = t := eq_of_beq (show (s == t) = true from h2)
   refine wX ?_
   rw [idx_take ht hno h3.symm]
   rfl
  ·have h3 : (s == t) = false := h2
   refine wX ?_
   refine ⟨i + 1, ⟨by omega, ?_⟩, by omega, ?_, wHH⟩
   ·rw [List.idxOf?_eq_none_iff] at hno ⊢
    rw [List.take_add_one, ht]
    simp only [List.mem_append, not_or]
    refine ⟨hno, ?_⟩
    simp
    intro h
    rw [h] at h3
    simp at h3
   ·exact wKK
 ·have hie : i = l.length := by omega
  subst hie
  rw [List.take_length] at hno
  refine wX ?_
  rw [hno]
  rfl
def fndV : Option Pl → Value
 | some p => .tuple #[.agg #[.int .i64 (p.1 : Int), .int .i64 (p.2 : Int)], .bool true]
 | none => .tuple #[.agg #[.int .i64 0, .int .i64 0], .bool false]
structure FdS where
 ch : List Nat
 o : Option Nat
theorem find_c (sc : List ScD) (hok : ∀ d ∈ sc, ScOk d) (ch : List Nat) (o : Option Nat) (hch : ChP sc ch o) (x : List UInt8) : ∀ H, (∀ w, Facts H w → ScoF sc w) → SpecH Tryz.prog 56 (pvs [ptrO o, .string (bs x)]) H (Ret (fndV (fnd (nmS sc) ch x)) H) := by
 refine factC hm Tryz.func56 (by kernel_rfl) rfl rfl ?_
 refine wX ?_
 refine loopS FdS (fun ⟨c, p⟩ => ChP sc c p ∧ fnd (nmS sc) ch x = fnd (nmS sc) c x) (fun ⟨_, p⟩ => mkS Tryz.f56.ntmps 0 [(0, .c (.v (ptrO p))), (1, .c (.v (.string (bs x)))), (4, .c (.lp 1 0)), (5, .c (.v (.bool false)))]) (fun ⟨c, _⟩ => c.length) rfl (fun _ => rfl) ⟨ch, o⟩ ⟨hch, rfl⟩ ?_ ?_
 ·exact wKK
 rintro ⟨c, p⟩ ⟨hc, hf⟩
 cases c with
 | nil =>
  obtain rfl : p = none := hc
  rw [hf]
  refine wX ?_
  rfl
 | cons s r =>
  obtain ⟨d, hd, rfl, hr⟩ := hc
  have hm := hok d (List.mem_of_getElem? hd)
  have hfs : fnd (nmS sc) (s :: r) x = match d.l.idxOf? x with | some i => some (s, i) | none => fnd (nmS sc) r x := by rw [fnd, nm_at hd]; first | done | (cases d.l.idxOf? x <;> rfl)
  rw [hfs] at hf
  refine wX ?_
  refine LdN.one (a := some ⟨d.b, 0, none⟩) (q := 1) (.slice (at0 d.na) d.l.length d.nc) rfl (fun w hw => (hw.1 s d hd).1) rfl ?_
  refine wX ?_
  refine call1 (IndexS_c (at0 d.na) d.l d.nc x (fun h => ?_) (by have := hm.len; omega) _ (fun w hw => (hw.1 s d hd).2)) ?_
  ·cases hn : d.na with
   | none => exact absurd (hm.nil hn).1 h
   | some b => rfl
  cases hi : d.l.idxOf? x with
  | some i =>
   rw [hi] at hf
   rw [hf]
   refine wX ?_
   refine LdN.one (a := some ⟨d.b, 0, none⟩) (q := 0) (.int .i64 (s : Int)) rfl (fun w hw => (hw.1 s d hd).1) rfl ?_
   refine wX ?_
   rfl
  | none =>
   rw [hi] at hf
   refine wX ?_
   refine LdN.one (a := some ⟨d.b, 0, none⟩) (q := 2) (ptrO d.ar) rfl (fun w hw => (hw.1 s d hd).1) rfl ?_
   refine wX ?_
   refine ⟨⟨r, d.ar⟩, ⟨hr, hf⟩, Nat.lt_succ_self _, ?_, wHH⟩
   exact wKK
end Go.Proofs.YtpikpjlhdkkigaaGreatDoor
namespace Go.Proofs.YtpikpjlhdkkigaaGreatDoor
open Go.AX Go.RowKit Go.Tree Go.Scan
set_option maxRecDepth 20000
structure RvS where
 sc : List ScD
 pl : List Pl
 un : Bool
 sa : Option Nat
 scap : Nat
 pa : Option Nat
 pcap : Nat
def rvC (st : RvS) : List Value := [.slice (at0 st.sa) st.sc.length st.scap, .slice (at0 st.pa) st.pl.length st.pcap, .bool st.un]
def ptrsC (sc : List ScD) : List Value := sc.map fun d => .pointer (some ⟨d.b, 0, none⟩)
def plC (p : Pl) : List Value := [.int .i64 (p.1 : Int), .int .i64 (p.2 : Int)]
def plsC (l : List Pl) : List Value := l.flatMap plC
def rvE (A : World → Prop) (rb : Nat) (st : RvS) : List Ent :=
 [.fact A, .app 56 3 (rvC st) (some ⟨rb, 0, none⟩) 1 1, .app 59 1 (ptrsC st.sc) (at0 st.sa) st.sc.length st.scap, .app 35 2 (plsC st.pl) (at0 st.pa) st.pl.length st.pcap, famE (rows1 0 st.sc), famE (rows2 st.sc)]
structure RvOk (st : RvS) (m : Nat) : Prop where
 sc : ∀ d ∈ st.sc, ScOk d
 sl : st.sc.length ≤ st.scap
 sn : st.sa = none → st.sc = []
 sm : st.sc.length ≤ m
 pl : st.pl.length ≤ st.pcap
 pn : st.pa = none → st.pl = []
 pm : st.pl.length ≤ m
 nl : ∀ d ∈ st.sc, d.l.length ≤ m
 top : m ≤ 100000
theorem RvOk.mono {st : RvS} {m n : Nat} (ok : RvOk st m) (h : m ≤ n) (hn : n ≤ 100000) : RvOk st n := ⟨ok.sc, ok.sl, ok.sn, Nat.le_trans ok.sm h, ok.pl, ok.pn, Nat.le_trans ok.pm h, fun d hd => Nat.le_trans (ok.nl d hd) h, hn⟩
def ScG (sc sc' : List ScD) : Prop := ∀ (s : Nat) (d : ScD), sc[s]? = some d → ∃ d' : ScD, sc'[s]? = some d' ∧ d'.b = d.b ∧ d'.ar = d.ar
theorem ScG.refl (sc : List ScD) : ScG sc sc := fun _ d h => ⟨d, h, rfl, rfl⟩
theorem ScG.trans {a b c : List ScD} (h : ScG a b) (k : ScG b c) : ScG a c := fun s d hd => by
 obtain ⟨d1, h1, h2, h3⟩ := h s d hd
 obtain ⟨d2, k1, k2, k3⟩ := k s d1 h1
 exact ⟨d2, k1, k2.trans h2, k3.trans h3⟩
theorem ChP.grow {sc sc' : List ScD} (g : ScG sc sc') : ∀ {ch : List Nat} {o : Option Nat}, ChP sc ch o → ChP sc' ch o
 | [], _, h => h
 | s :: r, o, ⟨d, h1, h2, h3⟩ => by
  obtain ⟨d', g1, g2, g3⟩ := g s d h1
  exact ⟨d', g1, by rw [g2]; exact h2, by rw [g3]; exact ChP.grow g h3⟩
theorem ScG.set {sc : List ScD} {s : Nat} {d d' : ScD} (h : sc[s]? = some d) (h1 : d'.b = d.b) (h2 : d'.ar = d.ar) : ScG sc (sc.set s d') := fun u e he => by
 by_cases hu : s = u
 ·subst hu
  rw [h] at he
  obtain rfl := Option.some.inj he
  exact ⟨d', by rw [List.getElem?_set_self (List.getElem?_eq_some_iff.1 h).1], h1, h2⟩
 ·exact ⟨e, by rw [List.getElem?_set_ne hu]; exact he, rfl, rfl⟩
theorem ScG.snoc (sc : List ScD) (d : ScD) : ScG sc (sc ++ [d]) := fun s e he => ⟨e, by rw [List.getElem?_append_left (List.getElem?_eq_some_iff.1 he).1]; exact he, rfl, rfl⟩
def opened (st : RvS) (b : Nat) (ar : Option Nat) (sb scap : Nat) : RvS := { st with sc := st.sc ++ [⟨b, none, 0, ar, []⟩], sa := some sb, scap := scap }
structure OpI where
 b : Nat
 sb : Nat
 cap : Nat
theorem open_c (A : World → Prop) (rb : Nat) (st : RvS) {m : Nat} (ok : RvOk st m) (o : Option Nat) : SpecH Tryz.prog 43 (pvs [.pointer (some ⟨rb, 0, none⟩), ptrO o]) (rvE A rb st)
  (RetG (ι := OpI) (fun i => st.sc.length + 1 ≤ i.cap) (fun i => .pointer (some ⟨i.b, 0, none⟩)) fun i => rvE A rb (opened st i.b o i.sb i.cap)) := by
 refine ownT hm Tryz.func43 (by kernel_rfl) rfl rfl (fun _ _ => okHB_eq rfl) (fun _ _ => Nat.le_of_ble_eq_true rfl) ?_
 have hsm := ok.sm
 have htop := ok.top
 have e0 : at0 st.sa = none → st.sc = [] := fun h => ok.sn (by cases hs : st.sa with | none => rfl | some b => rw [hs] at h; cases h)
 refine wXB ?_
 refine LdN.one (a := some ⟨rb, 0, none⟩) (q := 0) (.slice (at0 st.sa) st.sc.length st.scap) rfl (fun w hw => hw.2.1) rfl ?_
 refine wXB ?_
 refine BoxN.known [.int .i64 (st.sc.length : Int), .slice none 0 0, ptrO o] rfl fun b => ?_
 refine wX ?_
 refine LdN.one (a := some ⟨rb, 0, none⟩) (q := 0) (.slice (at0 st.sa) st.sc.length st.scap) rfl (fun w hw => hw.2.1) rfl ?_
 refine wX ?_
 refine Nd.mk ⟨Nat.le_refl 1, rfl, rfl⟩ ?_
 (conv => whnf)
 refine AppN.grow 2 (ptrsC st.sc) [.pointer (some ⟨b, 0, none⟩)] rfl rfl ⟨Nat.le_refl 1, ⟨by show (st.sc.length + 1) * 8 ≤ _; omega, by omega⟩, by decide⟩ fun sb' c' g1 g2 => ?_
 refine wX ?_
 refine EffW.appTo (i := 1) (q := 0) (ys := [_]) (rvC (opened st b o sb' c')) 3 rfl rfl rfl rfl rfl rfl rfl (Nat.le_of_ble_eq_true rfl) (by simp [rvC, opened, at0]) rfl ?_
 refine wX ?_
 have e1 : ptrsC st.sc ++ [.pointer (some ⟨b, 0, none⟩)] = ptrsC (opened st b o sb' c').sc := by simp [ptrsC, opened]
 have e2 : st.sc.length + 1 = (opened st b o sb' c').sc.length := by simp [opened]
 have e3 : rows1 0 (opened st b o sb' c').sc = rows1 0 st.sc ++ [rowS st.sc.length ⟨b, none, 0, o, []⟩] := by
  show rows1 0 (st.sc ++ [_]) = _
  rw [rows1_app, Nat.zero_add]
  rfl
 have e4 : rows2 (opened st b o sb' c').sc = rows2 st.sc := by
  show rows2 (st.sc ++ [_]) = _
  unfold rows2
  rw [List.flatMap_append]
  exact List.append_nil _
 rw [e1, e2]
 refine ⟨_, (famPut 4 6 (l' := rows1 0 (opened st b o sb' c').sc) rfl rfl rfl (by rw [e3]; exact (List.perm_append_singleton _ _).symm)).s, ⟨b, sb', c'⟩, by rw [← e2]; exact g1, rfl, ⟨wkE_refl _, wkE_refl _, wkE_refl _, wkE_refl _, wkE_refl _, by rw [e4]; exact wkE_refl _, wkH_nil _⟩⟩
theorem RvOk.opened {st : RvS} {m : Nat} (ok : RvOk st m) (hm2 : m < 100000) {b sb c : Nat} {o : Option Nat} (h : st.sc.length + 1 ≤ c) : RvOk (opened st b o sb c) (m + 1) where
 sc := fun d hd => by
  rcases List.mem_append.1 (show d ∈ st.sc ++ [_] from hd) with hd | hd
  ·exact ok.sc d hd
  ·rw [List.mem_singleton.1 hd]
   exact ⟨fun _ => ⟨rfl, rfl⟩, Nat.le_refl _, Nat.zero_le _⟩
 sl := by show (st.sc ++ [_]).length ≤ c; rw [List.length_append]; exact h
 sn := fun h => by cases h
 sm := by show (st.sc ++ [_]).length ≤ _; rw [List.length_append]; exact Nat.succ_le_succ ok.sm
 pl := ok.pl
 pn := ok.pn
 pm := Nat.le_succ_of_le ok.pm
 nl := fun d hd => by
  rcases List.mem_append.1 (show d ∈ st.sc ++ [_] from hd) with hd | hd
  ·exact Nat.le_succ_of_le (ok.nl d hd)
  ·rw [List.mem_singleton.1 hd]
   exact Nat.zero_le _
 top := hm2
end Go.Proofs.YtpikpjlhdkkigaaGreatDoor
namespace Go.AX
theorem famTakeO {H : List Ent} (i j : Nat) {l l' : List RowD} {T : TypeId} {sz n cap : Nat} {xs : List Value} (ob : Option Nat) (h0 : ob = none → n = 0 ∧ cap = 0 ∧ xs = []) (hi : nthE H i = some (famE l)) (hj : nthE H j = some .dead) (hne : Nat.beq i j = false) (hp : l.Perm (optRow T sz n xs ob cap ++ l')) : TurnE H ((H.set i (famE l')).set j (.app T sz xs (ob.map fun b => ⟨b, 0, none⟩) n cap)) := by
 cases ob with
 | some b => exact famTake i j ⟨T, sz, n, xs, b, cap⟩ hi hj hne hp
 | none =>
  rw [nthE_eq] at hi hj
  refine ⟨by rw [List.length_set, List.length_set], fun ρ S w hs => ?_⟩
  have hF : famF l w := (hs.ent i _ hi).1.1
  have hp' : l.Perm l' := hp
  obtain ⟨h1, h2, h3⟩ := h0 rfl
  refine hs.two hi hj (Nat.ne_of_beq_eq_false hne) (fun b hb => .inl ?_) (fun b _ hb => by cases hb) (famE_ok ⟨(hp'.map RowD.b).nodup_iff.1 hF.1, fun q hq => hF.2 q (hp'.mem_iff.2 hq)⟩) (.inl ⟨rfl, h1, h2, h3⟩)
  rcases hb with ⟨q, hq, hqb⟩ | hb
  ·exact ⟨q, hp'.mem_iff.2 hq, hqb⟩
  ·cases hb
end Go.AX
namespace Go.Proofs.YtpikpjlhdkkigaaGreatDoor
open Go.AX Go.RowKit Go.Tree Go.Scan
set_option maxRecDepth 20000
structure Went (st st' : RvS) (m : Nat) (r : WR) : Prop where
 ok : RvOk st' m
 g : ScG st.sc st'.sc
 nm : nmS st'.sc = r.nm
 pl : st'.pl = st.pl ++ r.pl
 un : st'.un = (st.un || r.un)
theorem nm_set {sc : List ScD} {s : Nat} {d d' : ScD} (h : sc[s]? = some d) : nmS (sc.set s d') = (nmS sc).set s d'.l := by
 unfold nmS
 rw [List.map_set]
theorem map_keep {α β : Type} {l : List α} {s : Nat} {d d' : α} {f : α → β} (h : l[s]? = some d) (e : f d' = f d) : (l.set s d').map f = l.map f := by
 rw [List.map_set, e]
 refine List.ext_getElem? fun i => ?_
 by_cases hi : s = i
 ·subst hi
  rw [List.getElem?_set_self (by rw [List.length_map]; exact (List.getElem?_eq_some_iff.1 h).1), List.getElem?_map, h]
  rfl
 ·rw [List.getElem?_set_ne hi]
theorem scF_taken {sc : List ScD} {w : World} {s : Nat} {d : ScD} {R1 R2 : List RowD} (hok : ∀ d ∈ sc, ScOk d) (p1 : (rows1 0 sc).Perm (rowS s d :: R1)) (p2 : (rows2 sc).Perm (rowN d ++ R2))
  (h1 : famF R1 w) (h2 : famF R2 w) (h3 : SlAt (some ⟨d.b, 0, none⟩) 3 (scoC s d) w) (h4 : SlAt (at0 d.na) (d.l.length * 1) (strsC d.l) w) : ScoF sc w := fun u e he => by
 have hm := List.mem_of_getElem? he
 refine ⟨?_, ?_⟩
 ·rcases List.mem_cons.1 (p1.mem_iff.1 (rows1_mem he)) with h | h
  ·have hx : scoC u e = scoC s d := congrArg RowD.xs h
   have hb : e.b = d.b := congrArg RowD.b h
   rw [hx, hb]
   exact h3
  ·exact (h1.2 _ h).sl
 cases hn : e.na with
 | none =>
  rw [((hok e hm).nil hn).1]
  exact SlAt.nil
 | some b =>
  have hin : (⟨9, 1, e.l.length, strsC e.l, b, e.nc⟩ : RowD) ∈ rows2 sc := List.mem_flatMap.2 ⟨e, hm, by unfold rowN; rw [hn]; exact List.mem_singleton.2 rfl⟩
  rcases List.mem_append.1 (p2.mem_iff.1 hin) with h | h
  ·unfold rowN at h
   cases hdn : d.na with
   | none => rw [hdn] at h; cases h
   | some b' =>
    rw [hdn] at h
    have h' := List.mem_singleton.1 h
    have hx : strsC e.l = strsC d.l := congrArg RowD.xs h'
    have hb : b = b' := congrArg RowD.b h'
    have hl : e.l.length = d.l.length := congrArg RowD.n h'
    rw [hx, hl, hb]
    rw [hdn] at h4
    simpa using h4
  ·have := (h2.2 _ h).sl
   show SlAt (some ⟨b, 0, none⟩) _ _ _
   simpa using this
def placed (st : RvS) (p : Pl) (pb pcap : Nat) : RvS := { st with pl := st.pl ++ [p], pa := some pb, pcap := pcap }
theorem RvOk.placed {st : RvS} {m : Nat} (ok : RvOk st m) (hm2 : m < 100000) {p : Pl} {pb c : Nat} (h : st.pl.length + 1 ≤ c) : RvOk (placed st p pb c) (m + 1) where
 sc := ok.sc
 sl := ok.sl
 sn := ok.sn
 sm := Nat.le_succ_of_le ok.sm
 pl := by show (st.pl ++ [p]).length ≤ c; rw [List.length_append]; exact h
 pn := fun h => by cases h
 pm := by show (st.pl ++ [p]).length ≤ _; rw [List.length_append]; exact Nat.succ_le_succ ok.pm
 nl := fun d hd => Nat.le_succ_of_le (ok.nl d hd)
 top := hm2
def named (d : ScD) (x : List UInt8) (nb cap : Nat) : ScD := { d with na := some nb, nc := cap, l := d.l ++ [x] }
theorem hput_named {d : ScD} {x : List UInt8} {nb nc : Nat} {R2 l : List RowD} (h : l.Perm (rowN (named d x nb nc) ++ R2)) : ((⟨9, 1, d.l.length + 1, strsC (named d x nb nc).l, nb, nc⟩ : RowD) :: R2).Perm l := by
 simpa [rowN, named, optRow] using h.symm
theorem RvOk_declared {st : RvS} {m : Nat} (ok : RvOk st m) {s : Nat} {d : ScD} (hd : st.sc[s]? = some d) (hm2 : m < 100000) {x : List UInt8} {p : Pl} {nb nc pb c : Nat} (h1 : d.l.length + 1 ≤ nc) (h : st.pl.length + 1 ≤ c) :
  RvOk (placed { st with sc := st.sc.set s (named d x nb nc) } p pb c) (m + 1) where
 sc := fun e he => by
  rcases List.mem_or_eq_of_mem_set (show e ∈ st.sc.set s (named d x nb nc) from he) with he | rfl
  ·exact ok.sc e he
  ·exact ⟨fun h => by (cases h), by show (d.l ++ [x]).length ≤ nc; rw [List.length_append]; exact h1, by show (d.l ++ [x]).length ≤ _; have := ok.nl d (List.mem_of_getElem? hd); rw [List.length_append, List.length_singleton]; omega⟩
 sl := by show (st.sc.set s (named d x nb nc)).length ≤ _; rw [List.length_set]; exact ok.sl
 sn := fun h => by
  have := ok.sn h
  show st.sc.set s (named d x nb nc) = []
  rw [this]
  rfl
 sm := by show (st.sc.set s (named d x nb nc)).length ≤ _; rw [List.length_set]; exact Nat.le_succ_of_le ok.sm
 pl := by show (st.pl ++ [p]).length ≤ c; rw [List.length_append]; exact h
 pn := fun h => by cases h
 pm := by show (st.pl ++ [p]).length ≤ _; rw [List.length_append]; exact Nat.succ_le_succ ok.pm
 nl := fun e he => by
  rcases List.mem_or_eq_of_mem_set (show e ∈ st.sc.set s (named d x nb nc) from he) with he | rfl
  ·exact Nat.le_succ_of_le (ok.nl e he)
  ·show (d.l ++ [x]).length ≤ _
   have := ok.nl d (List.mem_of_getElem? hd)
   rw [List.length_append, List.length_singleton]
   omega
 top := hm2
set_option maxHeartbeats 4000000 in
theorem declare_c (A : World → Prop) (rb : Nat) (st : RvS) {m : Nat} (ok : RvOk st m) (hm2 : m < 100000) (ch : List Nat) (o : Option Nat) (hch : ChP st.sc ch o) (hne : ch ≠ []) (x : List UInt8) (al : Bool) :
  SpecH Tryz.prog 57 (pvs [.pointer (some ⟨rb, 0, none⟩), ptrO o, .string (bs x), .bool al]) (rvE A rb st)
  (RetG (ι := RvS) (fun st' => Went st st' (m + 1) (if al then ⟨(decl (nmS st.sc) (ch.headD 0) x).1, [(decl (nmS st.sc) (ch.headD 0) x).2], false⟩ else ⟨(sets (nmS st.sc) ch x).1, [(sets (nmS st.sc) ch x).2], false⟩)) (fun _ => .tuple #[]) fun st' => rvE A rb st') := by
 have hfd : ∀ H, (∀ w, Facts H w → ScoF st.sc w) → _ := find_c st.sc ok.sc ch o hch x
 have hsf : ∀ w, famF (rows1 0 st.sc) w → famF (rows2 st.sc) w → ScoF st.sc w := fun w h1 h2 => scF_of ok.sc h1 h2
 by_cases hk : ∃ p, fnd (nmS st.sc) ch x = some p ∧ al = false
 ·obtain ⟨p, hp, rfl⟩ := hk
  rw [hp] at hfd
  have hpm := ok.pm
  refine ownC hm Tryz.func57 (by kernel_rfl) rfl rfl (fun _ _ => okHB_eq rfl) (fun _ _ => Nat.le_of_ble_eq_true rfl) ?_
  refine wX ?_
  refine call1 (hfd _ (fun w hw => hsf w hw.2.2.2.2.1 hw.2.2.2.2.2.1)) ?_
  refine wX ?_
  refine DrawN.plan [0, 1] [(2, 1), (3, 1), (4, 1), (5, 1), (6, 0)] [(7, 0), (8, 0), (9, 0), (10, 0)] (by decide +kernel) ?_
  (conv => whnf)
  refine LdN.one (a := some ⟨rb, 0, none⟩) (q := 1) (.slice (at0 st.pa) st.pl.length st.pcap) rfl (fun w hw => hw.2.1) rfl ?_
  refine wX ?_
  refine Nd.mk ⟨Nat.le_refl 1, rfl, rfl⟩ ?_
  (conv => whnf)
  refine AppN.grow 3 (plsC st.pl) (plC p) rfl rfl ⟨Nat.le_refl 1, ⟨by show (st.pl.length + 1) * 16 ≤ _; omega, by omega⟩, by decide⟩ fun sb' c' g1 g2 => ?_
  refine wX ?_
  refine EffW.appTo (i := 1) (q := 1) (ys := [_]) (rvC (placed st p sb' c')) 3 rfl rfl rfl rfl rfl rfl rfl (Nat.le_of_ble_eq_true rfl) (by simp [rvC, placed, at0]) rfl ?_
  refine wX ?_
  have e1 : plsC st.pl ++ plC p = plsC (placed st p sb' c').pl := by simp [plsC, placed]
  have e2 : st.pl.length + 1 = (placed st p sb' c').pl.length := by simp [placed]
  rw [e1, e2]
  refine ⟨placed st p sb' c', ⟨ok.placed hm2 g1, ScG.refl _, ?_, ?_, ?_⟩, rfl, ⟨wkE_refl _, wkE_refl _, wkE_refl _, wkE_refl _, wkE_refl _, wkE_refl _, wkH_nil _⟩⟩
  all_goals simp [sets, hp, placed]
 ·have hgo : fnd (nmS st.sc) ch x = none ∨ al = true := by
   cases hf : fnd (nmS st.sc) ch x with
   | none => exact Or.inl rfl
   | some p =>
    cases al with
    | true => exact Or.inr rfl
    | false => exact absurd ⟨p, hf, rfl⟩ hk
  obtain ⟨s, hs⟩ : ∃ s, ch.head? = some s := by
   cases ch with
   | nil => exact absurd rfl hne
   | cons s r => exact ⟨s, rfl⟩
  obtain ⟨d, hd, rfl⟩ : ∃ d, st.sc[s]? = some d ∧ o = some d.b := by
   cases ch with
   | nil => exact absurd rfl hne
   | cons s' r =>
    obtain rfl := Option.some.inj hs
    obtain ⟨d, h1, h2, _⟩ := hch
    exact ⟨d, h1, h2⟩
  obtain ⟨R1, R2, p1, p2, hput⟩ := rows_split hd
  have hpm := ok.pm
  have hm' := ok.sc d (List.mem_of_getElem? hd)
  have hnl := ok.nl d (List.mem_of_getElem? hd)
  refine ownT hm Tryz.func57 (by kernel_rfl) rfl rfl (fun _ _ => okHB_eq rfl) (fun _ _ => Nat.le_of_ble_eq_true rfl) ?_
  refine wX ?_
  refine SpecH.pad [.dead, .dead] rfl (SpecH.turnS (famTake 4 6 (rowS s d) rfl rfl rfl p1).s (SpecH.turnS (famTakeO 5 7 (T := 9) (sz := 1) (n := d.l.length) (xs := strsC d.l) (cap := d.nc) d.na (fun h => ?_) rfl rfl rfl p2).s ?_))
  ·obtain ⟨h1, h2⟩ := hm'.nil h
   rw [h1, h2]
   exact ⟨rfl, rfl, rfl⟩
  refine call1 (hfd _ (fun w hw => scF_taken ok.sc p1 p2 hw.2.2.2.2.1 hw.2.2.2.2.2.1 hw.2.2.2.2.2.2.1 hw.2.2.2.2.2.2.2.1)) ?_
  obtain ⟨p1', p2', k, hkv, hka⟩ : ∃ (p1 p2 : Nat) (k : Bool), fndV (fnd (nmS st.sc) ch x) = .tuple #[.agg #[.int .i64 (p1 : Int), .int .i64 (p2 : Int)], .bool k] ∧ (k = false ∨ al = true) := by
   rcases hgo with h | h
   ·exact ⟨0, 0, false, by rw [h]; rfl, .inl rfl⟩
   ·cases hf : fnd (nmS st.sc) ch x with
    | none => exact ⟨0, 0, false, rfl, .inl rfl⟩
    | some p => exact ⟨p.1, p.2, true, rfl, .inr h⟩
  rw [hkv]
  have hch0 : ch.headD 0 = s := by
   cases ch with
   | nil => exact absurd rfl hne
   | cons s' r => exact Option.some.inj hs
  have hres : (if al then (⟨(decl (nmS st.sc) (ch.headD 0) x).1, [(decl (nmS st.sc) (ch.headD 0) x).2], false⟩ : WR) else ⟨(sets (nmS st.sc) ch x).1, [(sets (nmS st.sc) ch x).2], false⟩) = ⟨(decl (nmS st.sc) s x).1, [(decl (nmS st.sc) s x).2], false⟩ := by
   rw [← hch0]
   cases al with
   | true => rfl
   | false =>
    have hf : fnd (nmS st.sc) ch x = none := hgo.resolve_right (by decide)
    simp [sets, hf]
  rcases k with _ | _
  ·refine wX ?_
   refine LdN.one (a := some ⟨d.b, 0, none⟩) (q := 1) (.slice (at0 d.na) d.l.length d.nc) rfl (fun w hw => hw.2.2.2.2.2.2.1) rfl ?_
   refine wX ?_
   refine Nd.mk ⟨Nat.le_refl 1, rfl, rfl⟩ ?_
   (conv => whnf)
   refine AppN.grow 7 (strsC d.l) [.string (bs x)] rfl rfl ⟨Nat.le_refl 1, ⟨by show (d.l.length + 1) * 16 ≤ _; omega, by omega⟩, by decide⟩ fun nb nc g3 g4 => ?_
   refine wX ?_
   refine EffW.appTo (i := 6) (q := 1) (ys := [_]) (scoC s (named d x nb nc)) 3 rfl rfl rfl rfl rfl rfl rfl (Nat.le_of_ble_eq_true rfl) (by simp [scoC, named, at0, rowS]) rfl ?_
   (conv => whnf)
   refine DrawN.plan [0, 4] [(1, 1), (2, 1), (3, 1), (5, 1), (6, 1), (7, 1), (8, 1), (9, 1), (10, 1)] [(11, 0)] (by decide +kernel) ?_
   refine wX ?_
   refine LdN.one (a := some ⟨d.b, 0, none⟩) (q := 0) (.int .i64 (s : Int)) rfl (fun w hw => hw.2.2.2.2.2.2.1) rfl ?_
   refine wX ?_
   refine LdN.one (a := some ⟨d.b, 0, none⟩) (q := 1) (.slice (some ⟨nb, 0, none⟩) (d.l ++ [x]).length nc) rfl (fun w hw => hw.2.2.2.2.2.2.1) rfl ?_
   refine wX ?_
   have hw1 : IntKind.i64.wrap (((d.l ++ [x]).length : Int) - 1) = (d.l.length : Int) := by rw [List.length_append, List.length_singleton, wrap_i64 (by omega)]; omega
   rw [hw1]
   refine DrawN.plan [0, 1] [(2, 1), (3, 1), (4, 1), (5, 1), (6, 0)] [(7, 0), (8, 0), (9, 0), (10, 0)] (by decide +kernel) ?_
   (conv => whnf)
   refine LdN.one (a := some ⟨rb, 0, none⟩) (q := 1) (.slice (at0 st.pa) st.pl.length st.pcap) rfl (fun w hw => hw.2.1) rfl ?_
   refine wX ?_
   refine Nd.mk ⟨Nat.le_refl 1, rfl, rfl⟩ ?_
   (conv => whnf)
   refine AppN.grow 3 (plsC st.pl) (plC ((s, d.l.length) : Pl)) rfl rfl ⟨Nat.le_refl 1, ⟨by show (st.pl.length + 1) * 16 ≤ _; omega, by omega⟩, by decide⟩ fun sb' c' g1 g2 => ?_
   refine wX ?_
   refine EffW.appTo (i := 1) (q := 1) (ys := [_]) (rvC (placed st ((s, d.l.length) : Pl) sb' c')) 3 rfl rfl rfl rfl rfl rfl rfl (Nat.le_of_ble_eq_true rfl) (by simp [rvC, placed, at0]) rfl ?_
   refine wX ?_
   have e1 : plsC st.pl ++ plC ((s, d.l.length) : Pl) = plsC (placed st ((s, d.l.length) : Pl) sb' c').pl := by simp [plsC, placed]
   have e2 : st.pl.length + 1 = (placed st ((s, d.l.length) : Pl) sb' c').pl.length := by simp [placed]
   rw [e1, e2]
   have hbs : rvC (placed st (s, d.l.length) sb' c') = rvC (placed { st with sc := st.sc.set s (named d x nb nc) } (s, d.l.length) sb' c') := by simp [rvC, placed]
   have hps : ptrsC st.sc = ptrsC (st.sc.set s (named d x nb nc)) := (map_keep (d' := named d x nb nc) (f := fun d => Value.pointer (some ⟨d.b, 0, none⟩)) hd rfl).symm
   have hln : st.sc.length = (st.sc.set s (named d x nb nc)).length := (List.length_set).symm
   have hns : strsC d.l ++ [.string (bs x)] = strsC (named d x nb nc).l := by simp [strsC, named]
   rw [hbs, hps, hln, hns]
   refine ⟨_, (famPut 4 6 rfl rfl rfl (hput (named d x nb nc)).1.symm).s.trans (famPut 5 7 rfl rfl rfl (b := nb) (n := d.l.length + 1) (hput_named (hput (named d x nb nc)).2)).s, placed { st with sc := st.sc.set s (named d x nb nc) } (s, d.l.length) sb' c', ⟨RvOk_declared ok hd hm2 g3 g1, ?_, ?_, ?_, ?_⟩, rfl, ⟨wkE_refl _, wkE_refl _, wkE_refl _, wkE_refl _, wkE_refl _, wkE_refl _, wkH_nil _⟩⟩
   ·exact ScG.set hd rfl rfl
   ·rw [hres]
    show nmS (st.sc.set s (named d x nb nc)) = _
    rw [nm_set hd, decl, nm_at hd]
    rfl
   ·rw [hres, decl, nm_at hd]
    rfl
   ·rw [hres]
    exact (Bool.or_false _).symm
  ·obtain rfl : al = true := hka.resolve_left (by decide)
   refine wX ?_
   refine LdN.one (a := some ⟨d.b, 0, none⟩) (q := 1) (.slice (at0 d.na) d.l.length d.nc) rfl (fun w hw => hw.2.2.2.2.2.2.1) rfl ?_
   refine wX ?_
   refine Nd.mk ⟨Nat.le_refl 1, rfl, rfl⟩ ?_
   (conv => whnf)
   refine AppN.grow 7 (strsC d.l) [.string (bs x)] rfl rfl ⟨Nat.le_refl 1, ⟨by show (d.l.length + 1) * 16 ≤ _; omega, by omega⟩, by decide⟩ fun nb nc g3 g4 => ?_
   refine wX ?_
   refine EffW.appTo (i := 6) (q := 1) (ys := [_]) (scoC s (named d x nb nc)) 3 rfl rfl rfl rfl rfl rfl rfl (Nat.le_of_ble_eq_true rfl) (by simp [scoC, named, at0, rowS]) rfl ?_
   (conv => whnf)
   refine DrawN.plan [0, 4] [(1, 1), (2, 1), (3, 1), (5, 1), (6, 1), (7, 1), (8, 1), (9, 1), (10, 1)] [(11, 0)] (by decide +kernel) ?_
   refine wX ?_
   refine LdN.one (a := some ⟨d.b, 0, none⟩) (q := 0) (.int .i64 (s : Int)) rfl (fun w hw => hw.2.2.2.2.2.2.1) rfl ?_
   refine wX ?_
   refine LdN.one (a := some ⟨d.b, 0, none⟩) (q := 1) (.slice (some ⟨nb, 0, none⟩) (d.l ++ [x]).length nc) rfl (fun w hw => hw.2.2.2.2.2.2.1) rfl ?_
   refine wX ?_
   have hw1 : IntKind.i64.wrap (((d.l ++ [x]).length : Int) - 1) = (d.l.length : Int) := by rw [List.length_append, List.length_singleton, wrap_i64 (by omega)]; omega
   rw [hw1]
   refine DrawN.plan [0, 1] [(2, 1), (3, 1), (4, 1), (5, 1), (6, 0)] [(7, 0), (8, 0), (9, 0), (10, 0)] (by decide +kernel) ?_
   (conv => whnf)
   refine LdN.one (a := some ⟨rb, 0, none⟩) (q := 1) (.slice (at0 st.pa) st.pl.length st.pcap) rfl (fun w hw => hw.2.1) rfl ?_
   refine wX ?_
   refine Nd.mk ⟨Nat.le_refl 1, rfl, rfl⟩ ?_
   (conv => whnf)
   refine AppN.grow 3 (plsC st.pl) (plC ((s, d.l.length) : Pl)) rfl rfl ⟨Nat.le_refl 1, ⟨by show (st.pl.length + 1) * 16 ≤ _; omega, by omega⟩, by decide⟩ fun sb' c' g1 g2 => ?_
   refine wX ?_
   refine EffW.appTo (i := 1) (q := 1) (ys := [_]) (rvC (placed st ((s, d.l.length) : Pl) sb' c')) 3 rfl rfl rfl rfl rfl rfl rfl (Nat.le_of_ble_eq_true rfl) (by simp [rvC, placed, at0]) rfl ?_
   refine wX ?_
   have e1 : plsC st.pl ++ plC ((s, d.l.length) : Pl) = plsC (placed st ((s, d.l.length) : Pl) sb' c').pl := by simp [plsC, placed]
   have e2 : st.pl.length + 1 = (placed st ((s, d.l.length) : Pl) sb' c').pl.length := by simp [placed]
   rw [e1, e2]
   have hbs : rvC (placed st (s, d.l.length) sb' c') = rvC (placed { st with sc := st.sc.set s (named d x nb nc) } (s, d.l.length) sb' c') := by simp [rvC, placed]
   have hps : ptrsC st.sc = ptrsC (st.sc.set s (named d x nb nc)) := (map_keep (d' := named d x nb nc) (f := fun d => Value.pointer (some ⟨d.b, 0, none⟩)) hd rfl).symm
   have hln : st.sc.length = (st.sc.set s (named d x nb nc)).length := (List.length_set).symm
   have hns : strsC d.l ++ [.string (bs x)] = strsC (named d x nb nc).l := by simp [strsC, named]
   rw [hbs, hps, hln, hns]
   refine ⟨_, (famPut 4 6 rfl rfl rfl (hput (named d x nb nc)).1.symm).s.trans (famPut 5 7 rfl rfl rfl (b := nb) (n := d.l.length + 1) (hput_named (hput (named d x nb nc)).2)).s, placed { st with sc := st.sc.set s (named d x nb nc) } (s, d.l.length) sb' c', ⟨RvOk_declared ok hd hm2 g3 g1, ?_, ?_, ?_, ?_⟩, rfl, ⟨wkE_refl _, wkE_refl _, wkE_refl _, wkE_refl _, wkE_refl _, wkE_refl _, wkH_nil _⟩⟩
   ·exact ScG.set hd rfl rfl
   ·rw [hres]
    show nmS (st.sc.set s (named d x nb nc)) = _
    rw [nm_set hd, decl, nm_at hd]
    rfl
   ·rw [hres, decl, nm_at hd]
    rfl
   ·rw [hres]
    exact (Bool.or_false _).symm
end Go.Proofs.YtpikpjlhdkkigaaGreatDoor
