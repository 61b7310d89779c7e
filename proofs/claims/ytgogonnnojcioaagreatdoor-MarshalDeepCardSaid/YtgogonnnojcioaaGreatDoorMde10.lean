/-
  Lemmas (MC14 MD11 MC16 Ax59 MC15 MC17).
-/
import Derived.Scope
import Derived.Test.YtgogonnnojcioaaGreatDoorMde9
set_option linter.unusedVariables false
set_option linter.unusedSimpArgs false
namespace Go.Proofs.YtgogonnnojcioaaGreatDoor
open Go.AX Go.RowKit Go.Core Go.Marshal
set_option maxRecDepth 20000
def ownS (l : List (List UInt8)) (a : Option Addr) (cap : Nat) : Ent := .app 9 1 (strC l) a l.length cap
theorem Qs8 {st : PS} (h : st.e ≠ 0) : (Qb6 st).2 = st := by
 unfold Qb6
 simp only
 rw [Qfj h]
 have h1 : (symM 0 st).2 = st := Qrh h
 rw [h1, if_neg (by simp [h])]
theorem Qu3 {ns : List (List UInt8)} {st : PS} (h : st.e ≠ 0) : (Qe5 ns st).2 = st := by
 unfold Qe5
 simp only
 rw [Qfj h]
 have h1 : (symM 0 st).2 = st := Qrh h
 rw [h1, if_neg (by simp [h])]
theorem Qgs {n : Nat} {a b : PS} (h : a.s.length < n \/ a.e ≠ 0) (hl : Le 0 a b) (hd : a.e ≠ 0 -> b = a) : b.s.length < n \/ b.e ≠ 0 := by
 rcases h with h | h
 ·exact .inl (Nat.lt_of_le_of_lt hl.s h)
 ·rw [hd h]; exact .inr h
theorem Qq0 {n : Nat} {st : PS} (h : st.e ≠ 0) : (Qav n st).2.e ≠ 0 := by
 cases n with
 | zero => show (Qam st 99).e ≠ 0; rw [Qel h]; exact h
 | succ n => rw [Qlq n h]; exact h
structure ObP where
 p : RdP
 na : Option Addr
 nc : Nat
 ia : Option Addr
 ic : Nat
theorem Qyd (q : Qaj) (cb : Nat) (hq : Qa5 q) (hn : q.c.names.length <= 2000 /\ q.c.items.length <= 2000) (b : Bool) (hb : b = true ↔ Qbe [q.c]) :
  ∀ H, (∀ w, Qax H w -> SlAt (some ⟨cb, 0, none⟩) 5 (Qa2 q) w /\ Qbn q w) -> SpecH Tryz.prog 65 (pvs [.slice (some ⟨cb, 0, none⟩) 1 1]) H (Ret (errI b) H) := by
 intro H hH
 obtain ⟨b2, hb2, h⟩ := Qwi (some ⟨cb, 0, none⟩) 1 [q] (fun h => by cases h) ⟨by simp, fun p hp => by obtain rfl := Zgz.1 hp; exact hn⟩ (fun p hp => by obtain rfl := Zgz.1 hp; exact hq) H (fun w hw => ⟨by have := (hH w hw).1; simpa [grC] using this, fun p hp => by obtain rfl := Zgz.1 hp; exact (hH w hw).2⟩)
 have e : b2 = b := by
  rw [Zsz, hb, hb2]
  rfl
 rw [<- e]
 exact h
theorem Qet (w : World) : SlAt none 0 [] w := ⟨rfl, fun h => absurd h (Nat.lt_irrefl 0), fun j h => absurd h (Nat.not_lt_zero j)⟩
set_option maxHeartbeats 4000000 in
theorem Quw (n : Nat) (hc : Qtl n) (rb : Nat) (st : PS) (p : RdP) (ok : RdOk st p) (bd : Bd st) (hn : st.s.length < n \/ st.e ≠ 0) : SpecH Tryz.prog 107 [.c (.v (.pointer (some ⟨rb, 0, none⟩)))] (rdE rb st p ++ [.app 9 1 [] none 0 0, .app 3 1 [] none 0 0]) (RetG (ι := ObP) (fun i => RdOk (objM (Qav n) st).2 i.p /\ Qa5 ⟨(objM (Qav n) st).1, i.na, i.nc, i.ia, i.ic⟩) (fun i => Qpv ⟨(objM (Qav n) st).1, i.na, i.nc, i.ia, i.ic⟩) fun i => rdE rb (objM (Qav n) st).2 i.p ++ [ownS (objM (Qav n) st).1.names i.na i.nc, ownI (objM (Qav n) st).1.items i.ia i.ic]) := by
 refine Qz7 hm Tryz.func107 (by kernel_rfl) rfl rfl (fun _ _ => Qan rfl) (fun _ _ => Zaz rfl) ?_
 have htk := Qdo n
 have hA : ∀ k ns l st', Qbs (Qav n) (k + 1) ns l st' = if st'.e = 0 then Qbs (Qav n) k (ns ++ [(Qe5 ns st').1]) (l ++ [(Qav n (Qe5 ns st').2).1]) (Qav n (Qe5 ns st').2).2 else ((ns, l), st') := fun k ns l st' => by conv => lhs; unfold Qbs
 have b1 := bd.le (Qdd st)
 have ok1 := ok.same (Qc6 st)
 have bn := bd.le (Qj2 st)
 have hnc := Qgs hn (Qj2 st) Qs8
 obtain ⟨R, hR⟩ : ∃ R, objM (Qav n) st = R := ⟨_, rfl⟩
 rw [hR]
 unfold objM at hR
 obtain ⟨R2, hR2⟩ : ∃ R2, Qbs (Qav n) (numM maxN (Qb6 st).2).1 [] [] (numM maxN (Qb6 st).2).2 = R2 := ⟨_, rfl⟩
 rw [hR2] at hR
 have hcl : Qb6 st = ((symM (Qad st).1 (Qad st).2).1, if (symM (Qad st).1 (Qad st).2).2.e = 0 /\ Go.Scan.icB (symM (Qad st).1 (Qad st).2).1 = false then Qam (symM (Qad st).1 (Qad st).2).2 4 else (symM (Qad st).1 (Qad st).2).2) := rfl
 have hb2 := bd.le (Qfi st)
 have hsym := Qhy rb (Qad st).1 (Qad st).2 p ok1 (by have := b1.pot; omega)
 have oks := fun i hi => ok1.sym (by have := b1.pot; omega) (Qad st).1 (i := i) hi
 have tl := Qju (Qad st).1 (Qad st).2 (by have := b1.pot; omega) ok1.sw
 have hnx := Qjh rb st p
 generalize Qb6 st = cs at hcl bn hnc hR hR2 ⊢
 generalize Qad st = qx at hcl hb2 hsym oks tl hnx ⊢
 obtain ⟨x, s1⟩ := qx
 simp only at hcl hb2 hsym oks tl hnx
 refine SeqN.plain ?_
 refine wXK ?_
 refine BoxN.own ?_
 refine wXK ?_
 refine SeqN.plain ?_
 refine wXK ?_
 refine Qai (hnx) [0, 1, 2, 3, 4] rfl ⟨rfl, rfl, rfl, rfl, rfl, trivial⟩ rfl fun _ _ => ?_
 refine wXR ?_
 refine Qai hsym [0, 1, 2, 3, 4] rfl ⟨rfl, rfl, rfl, rfl, rfl, trivial⟩ rfl fun i2 hi2 => ?_
 have ok2 := oks i2 hi2
 generalize symM x s1 = qs at hcl hb2 ok2 tl ⊢
 obtain ⟨t, s2⟩ := qs
 simp only at hcl hb2 ok2 tl
 obtain ⟨p2, hp2⟩ : ∃ p2 : RdP, p2 = { p with sa := i2.1, sc := i2.2 } := ⟨_, rfl⟩
 rw [<- hp2] at ok2 ⊢
 obtain ⟨t0, s3⟩ := cs
 simp only at hR hR2 bn hnc
 obtain ⟨rfl, h3⟩ : t0 = t /\ s3 = if s2.e = 0 /\ Go.Scan.icB t = false then Qam s2 4 else s2 := ⟨congrArg Prod.fst hcl, congrArg Prod.snd hcl⟩
 clear hcl
 have ok3 : RdOk s3 p2 := by
  rw [h3]
  split
  ·exact ok2.same (Qbj s2 4)
  ·exact ok2
 refine wXK ?_
 refine BoxN.known (Qa2 ⟨⟨0, 0, [], [], []⟩, none, 0, none, 0⟩) rfl fun kb => ?_
 refine wXK ?_
 refine EffW.appTo (i := 8) (q := 0) (ys := Qa2 ⟨⟨8, 0, t0, [], []⟩, none, 0, none, 0⟩) (Qa2 ⟨⟨8, 0, t0, [], []⟩, none, 0, none, 0⟩) 5 rfl rfl rfl rfl rfl rfl rfl (Zaz rfl) rfl rfl ?_
 refine wXR ?_
 refine SeqN.join Unit (fun _ => True) (fun _ => mkS Tryz.f107.ntmps 0 [(0, .c (.v (.pointer (some ⟨rb, 0, none⟩)))), (2, .c (.lp 7 0)), (3, .c (.v (.pointer (some ⟨kb, 0, none⟩))))])
  (fun _ => rdE rb s3 p2 ++ [ownS [] none 0, ownI [] none 0, .blk 57 [.v (.int .i64 0), .v (.int .i64 0), .v (.string ⟨#[]⟩), .v (.slice none 0 0), .v (.slice none 0 0)], .app 57 5 (Qa2 ⟨⟨8, 0, t0, [], []⟩, none, 0, none, 0⟩) (some ⟨kb, 0, none⟩) 1 1]) (fun _ _ => Zaz rfl) (fun _ _ => rfl) (fun _ _ => Qan rfl) ?_ ?_
 ·refine SeqN.plain ?_
  refine wXR ?_
  refine LdN.one (a := some ⟨rb, 0, none⟩) (q := 4) (.int .i64 s2.e) rfl (fun w hw => hw.1) rfl ?_
  refine wXR ?_
  by_cases he : s2.e = 0
  ·rw [show (s2.e == 0) = true by rw [he]; rfl]
   refine wXR ?_
   refine LdN.agg (a := some ⟨kb, 0, none⟩) (q := 0) (Qa2 ⟨⟨8, 0, t0, [], []⟩, none, 0, none, 0⟩) rfl (fun w hw => hw.2.2.2.2.2.2.2.1) rfl (fun j _ => by rw [Nat.zero_add]) ?_
   refine wXR ?_
   refine RwN.known (Qa2 ⟨⟨8, 0, t0, [], []⟩, none, 0, none, 0⟩) rfl fun cb => ?_
   refine wXR ?_
   have hF := fun (w : World) (h : SlAt (some ⟨cb, 0, none⟩) 5 (Qa2 ⟨⟨8, 0, t0, [], []⟩, none, 0, none, 0⟩) w) => (show SlAt (some ⟨cb, 0, none⟩) 5 (Qa2 ⟨⟨8, 0, t0, [], []⟩, none, 0, none, 0⟩) w /\ Qbn ⟨⟨8, 0, t0, [], []⟩, none, 0, none, 0⟩ w from ⟨h, Qet w, Qet w⟩)
   have hck := Qyd ⟨⟨8, 0, t0, [], []⟩, none, 0, none, 0⟩ cb ⟨fun _ => rfl, fun _ => rfl, Zkz _, Zkz _, (fun s hs => by cases hs), by show t0.length <= _; omega, Zcz _, Zcz _⟩ ⟨Zkz _, Zkz _⟩ (Go.Scan.icB t0) (Qp9 t0).symm
   cases hic : Go.Scan.icB t0 with
   | true =>
    rw [hic] at hck h3
    rw [if_neg (fun h => by cases h.2)] at h3
    subst h3
    refine Qao (hck _ (fun w hw => hF w hw.2.2.2.2.2.2.2.2.1)) ?_
    refine wXR ?_
    exact ⟨(), trivial, by (repeat' (first | exact trivial | refine And.intro (by with_reducible rfl) ?_ | (with_reducible exact Qay _) | (with_reducible exact Qaq _) | refine And.intro ?_ ?_)), wHH⟩
   | false =>
    rw [hic] at hck h3
    rw [if_pos ⟨he, rfl⟩] at h3
    subst h3
    refine Qao (hck _ (fun w hw => hF w hw.2.2.2.2.2.2.2.2.1)) ?_
    refine wXR ?_
    refine Qai (Qdn rb s2 p2 4) [0, 1, 2, 3, 4] rfl ⟨rfl, rfl, rfl, rfl, rfl, trivial⟩ rfl fun _ _ => ?_
    refine wXR ?_
    exact ⟨(), trivial, by (repeat' (first | exact trivial | refine And.intro (by with_reducible rfl) ?_ | (with_reducible exact Qay _) | (with_reducible exact Qaq _) | refine And.intro ?_ ?_)), wHH⟩
  ·rw [show (s2.e == 0) = false by simpa using he]
   rw [if_neg (fun h => he h.1)] at h3
   subst h3
   refine wXR ?_
   exact ⟨(), trivial, by (repeat' (first | exact trivial | refine And.intro (by with_reducible rfl) ?_ | (with_reducible exact Qay _) | (with_reducible exact Qaq _) | refine And.intro ?_ ?_)), wHH⟩
 rintro ⟨⟩ -
 refine SeqN.plain ?_
 refine wXR ?_
 refine Qai (Qf0 rb s3 p2 maxN (by decide)) [0, 1, 2, 3, 4] rfl ⟨rfl, rfl, rfl, rfl, rfl, trivial⟩ rfl fun _ _ => ?_
 have bn4 := bn.le (Qc4 maxN s3)
 have ok4 := ok3.same (Qb7 maxN s3)
 have hm4 := Qea maxN s3
 have hn4 := Qgs hnc (Qc4 maxN s3) (fun h => by rw [Qeu h])
 generalize numM maxN s3 = qn at hR2 bn4 ok4 hm4 hn4 ⊢
 obtain ⟨m, s4⟩ := qn
 simp only at hR2 bn4 ok4 hm4 hn4
 have hm5 : m <= 1000000000000000 := hm4
 refine wXR ?_
 refine SeqN.plain ?_
 refine SeqN.plain ?_
 refine wXR ?_
 refine LoopN.intro (Nat × List (List UInt8) × List Int × PS × ObP) (fun ⟨i, ns, l, st, q⟩ => Qbs (Qav n) (m - i) ns l st = R2 /\ i <= m /\ RdOk st q.p /\ Bd st /\ (st.s.length < n \/ st.e ≠ 0) /\ l.length + st.s.length + liv st <= 30001 /\ ns.length = l.length /\ (q.na = none -> ns = []) /\ (q.ia = none -> l = []) /\ ns.length <= q.nc /\ l.length <= q.ic /\ ∀ s ∈ ns, s.length <= 30000)
  (fun ⟨i, _, _, _, _⟩ => mkS Tryz.f107.ntmps 0 [(0, .c (.v (.pointer (some ⟨rb, 0, none⟩)))), (2, .c (.lp 7 0)), (3, .c (.v (.pointer (some ⟨kb, 0, none⟩)))), (4, .c (.v (.int .i64 (m : Int)))), (5, .c (.v (.int .i64 (i : Int))))])
  (fun ⟨_, ns, l, st, ⟨p, na, nc, ia, ic⟩⟩ => rdE rb st p ++ [ownS ns na nc, ownI l ia ic, .blk 57 [.v (.int .i64 0), .v (.int .i64 0), .v (.string ⟨#[]⟩), .v (.slice none 0 0), .v (.slice none 0 0)], .app 57 5 (Qa2 ⟨⟨8, 0, t0, ns, l⟩, na, nc, ia, ic⟩) (some ⟨kb, 0, none⟩) 1 1]) (fun ⟨_, _, _, st, _⟩ => if st.e = 0 then st.s.length + 1 else 0) [] rfl
  (fun _ => rfl) (fun _ => rfl) (fun _ _ => Qan rfl) ⟨(0, [], [], s4, ⟨p2, none, 0, none, 0⟩), ⟨hR2, Zkz _, ok4, bn4, hn4, ?_, rfl, fun _ => rfl, fun _ => rfl, Zcz _, Zcz _, fun s hs => by cases hs⟩, ?_, ?_⟩ ?_
 ·have := bn4.pot
  unfold liv
  show 0 + s4.s.length + _ <= _
  split <;> omega
 ·exact wKK
 ·exact ⟨Qaa _, Qaa _, Qaa _, Qaa _, Qaa _, Qaa _, Qaa _, Qaa _, Qaa _, wHH⟩
 rintro ⟨i, ns, l, st5, ⟨p5, na, nc, ia, ic⟩⟩ ⟨h1, h2, h3, h4, h5, h6, h7, h8, h9, h10, h11, h12⟩
 simp only at h8 h9 h10 h11 h3
 refine SeqN.plain ?_
 refine SeqN.plain ?_
 refine wXR ?_
 by_cases hi : i < m
 ·rw [show decide ((i : Int) < (m : Int)) = true by simpa using hi]
  obtain ⟨k, hk⟩ : ∃ k, m - i = k + 1 := ⟨m - i - 1, by omega⟩
  rw [hk, hA] at h1
  refine wXR ?_
  refine LdN.one (a := some ⟨rb, 0, none⟩) (q := 4) (.int .i64 st5.e) rfl (fun w hw => hw.1) rfl ?_
  refine wXR ?_
  by_cases he5 : st5.e = 0
  ·rw [show (st5.e == 0) = true by rw [he5]; rfl]
   rw [if_pos he5] at h1
   refine wXR ?_
   refine SeqN.plain ?_
   refine SeqN.plain ?_
   refine wXR ?_
   refine Qai (Qjh rb st5 p5) [0, 1, 2, 3, 4] rfl ⟨rfl, rfl, rfl, rfl, rfl, trivial⟩ rfl fun _ _ => ?_
   have b5 := h4.le (Qdd st5)
   have o5 := h3.same (Qc6 st5)
   have l5 := Qqk ns st5
   have d5 := Qgs h5 l5 Qu3
   have hnm : Qe5 ns st5 = ((symM (Qad st5).1 (Qad st5).2).1, if (symM (Qad st5).1 (Qad st5).2).2.e = 0 /\ ((symM (Qad st5).1 (Qad st5).2).1 ∈ ns \/ Go.Scan.iiB (symM (Qad st5).1 (Qad st5).2).1 = false) then Qam (symM (Qad st5).1 (Qad st5).2).2 4 else (symM (Qad st5).1 (Qad st5).2).2) := rfl
   have hsy5 := Qhy rb (Qad st5).1 (Qad st5).2 p5 o5 (by have := b5.pot; omega)
   have os5 := fun i hi => o5.sym (by have := b5.pot; omega) (Qad st5).1 (i := i) hi
   have tl5 := Qju (Qad st5).1 (Qad st5).2 (by have := b5.pot; omega) o5.sw
   generalize Qe5 ns st5 = qm at h1 hnm l5 d5
   generalize Qad st5 = qx at hnm hsy5 os5 tl5 ⊢
   obtain ⟨x5, s51⟩ := qx
   simp only at hnm hsy5 os5 tl5
   refine wXR ?_
   refine Qai hsy5 [0, 1, 2, 3, 4] rfl ⟨rfl, rfl, rfl, rfl, rfl, trivial⟩ rfl fun i6 hi6 => ?_
   have ok6 := os5 i6 hi6
   generalize symM x5 s51 = qs at hnm ok6 tl5 ⊢
   obtain ⟨t6, s6⟩ := qs
   simp only at hnm ok6 tl5
   obtain ⟨p6, hp6⟩ : ∃ p6 : RdP, p6 = { p5 with sa := i6.1, sc := i6.2 } := ⟨_, rfl⟩
   rw [<- hp6] at ok6 ⊢
   obtain ⟨t60, s8⟩ := qm
   simp only at h1 l5 d5
   obtain ⟨rfl, h8s⟩ : t60 = t6 /\ s8 = if s6.e = 0 /\ (t6 ∈ ns \/ Go.Scan.iiB t6 = false) then Qam s6 4 else s6 := ⟨congrArg Prod.fst hnm, congrArg Prod.snd hnm⟩
   clear hnm
   have ok7 : RdOk s8 p6 := by
    rw [h8s]
    split
    ·exact ok6.same (Qbj s6 4)
    ·exact ok6
   have b7 := h4.le l5
   refine wXR ?_
   refine SeqN.plain ?_
   refine wXR ?_
   refine RwN.known [.string (bs t60)] rfl fun nb => ?_
   refine wXR ?_
   refine RwN.known [.int .i64 0] rfl fun zb => ?_
   refine wXR ?_
   refine RwN.known (Qa2 ⟨⟨8, 0, [65], [t60], [0]⟩, some ⟨nb, 0, none⟩, 1, some ⟨zb, 0, none⟩, 1⟩) rfl fun ob => ?_
   refine wXR ?_
   refine SeqN.join Unit (fun _ => True) (fun _ => mkS Tryz.f107.ntmps 0 [(0, .c (.v (.pointer (some ⟨rb, 0, none⟩)))), (2, .c (.lp 7 0)), (3, .c (.v (.pointer (some ⟨kb, 0, none⟩)))), (4, .c (.v (.int .i64 (m : Int)))), (5, .c (.v (.int .i64 (i : Int)))), (6, .c (.v (.string (bs t60))))])
    (fun _ => rdE rb s8 p6 ++ [ownS ns na nc, ownI l ia ic, .blk 57 [.v (.int .i64 0), .v (.int .i64 0), .v (.string ⟨#[]⟩), .v (.slice none 0 0), .v (.slice none 0 0)], .app 57 5 (Qa2 ⟨⟨8, 0, t0, ns, l⟩, na, nc, ia, ic⟩) (some ⟨kb, 0, none⟩) 1 1, .dead, .dead, .dead]) (fun _ _ => Zaz rfl) (fun _ _ => rfl) (fun _ _ => Qan rfl) ?_ ?_
   ·refine SeqN.plain ?_
    refine wXR ?_
    refine LdN.one (a := some ⟨rb, 0, none⟩) (q := 4) (.int .i64 s6.e) rfl (fun w hw => hw.1) rfl ?_
    refine wXR ?_
    have hqo : Qa5 ⟨⟨8, 0, [65], [t60], [0]⟩, some ⟨nb, 0, none⟩, 1, some ⟨zb, 0, none⟩, 1⟩ := ⟨(fun h => by cases h), (fun h => by cases h), by show 1 <= _; omega, by show 1 <= _; omega, fun s hs => by obtain rfl := Zgz.1 hs; omega, by show 1 <= _; omega, Zcz _, Zcz _⟩
    have hck := Qyd ⟨⟨8, 0, [65], [t60], [0]⟩, some ⟨nb, 0, none⟩, 1, some ⟨zb, 0, none⟩, 1⟩ ob hqo ⟨by show 1 <= _; omega, by show 1 <= _; omega⟩ (Go.Scan.iiB t60) (Qsn t60).symm
    have hll : l.length <= 30001 := by omega
    by_cases he6 : s6.e = 0
    ·rw [show (s6.e == 0) = true by rw [he6]; rfl]
     refine wXR ?_
     refine LdN.one (a := some ⟨kb, 0, none⟩) (q := 3) (.slice na ns.length nc) rfl (fun w hw => hw.2.2.2.2.2.2.2.1) rfl ?_
     refine wXR ?_
     refine Qao (Qmr na ns nc t60 h8 (by omega) _ (fun w hw => hw.2.2.2.2.2.1)) ?_
     by_cases hmem : t60 ∈ ns
     ·rw [show decide (t60 ∈ ns) = true by simpa using hmem]
      rw [if_pos ⟨he6, .inl hmem⟩] at h8s
      subst h8s
      refine wXR ?_
      refine Qai (Qdn rb s6 p6 4) [0, 1, 2, 3, 4] rfl ⟨rfl, rfl, rfl, rfl, rfl, trivial⟩ rfl fun _ _ => ?_
      refine wXR ?_
      exact ⟨(), trivial, by (repeat' (first | exact trivial | refine And.intro (by with_reducible rfl) ?_ | (with_reducible exact Qay _) | (with_reducible exact Qaq _) | refine And.intro ?_ ?_)), wHH⟩
     ·rw [show decide (t60 ∈ ns) = false by simpa using hmem]
      refine wXR ?_
      cases hii : Go.Scan.iiB t60 with
      | true =>
       rw [hii] at hck h8s
       rw [if_neg (fun h => h.2.elim hmem (fun h => by cases h))] at h8s
       subst h8s
       refine Qao (hck _ (fun w hw => ⟨hw.2.2.2.2.2.2.2.2.2.2.1, hw.2.2.2.2.2.2.2.2.1, hw.2.2.2.2.2.2.2.2.2.1⟩)) ?_
       refine wXR ?_
       exact ⟨(), trivial, by (repeat' (first | exact trivial | refine And.intro (by with_reducible rfl) ?_ | (with_reducible exact Qay _) | (with_reducible exact Qaq _) | refine And.intro ?_ ?_)), wHH⟩
      | false =>
       rw [hii] at hck h8s
       rw [if_pos ⟨he6, .inr rfl⟩] at h8s
       subst h8s
       refine Qao (hck _ (fun w hw => ⟨hw.2.2.2.2.2.2.2.2.2.2.1, hw.2.2.2.2.2.2.2.2.1, hw.2.2.2.2.2.2.2.2.2.1⟩)) ?_
       refine wXR ?_
       refine Qai (Qdn rb s6 p6 4) [0, 1, 2, 3, 4] rfl ⟨rfl, rfl, rfl, rfl, rfl, trivial⟩ rfl fun _ _ => ?_
       refine wXR ?_
       exact ⟨(), trivial, by (repeat' (first | exact trivial | refine And.intro (by with_reducible rfl) ?_ | (with_reducible exact Qay _) | (with_reducible exact Qaq _) | refine And.intro ?_ ?_)), wHH⟩
    ·rw [show (s6.e == 0) = false by simpa using he6]
     rw [if_neg (fun h => he6 h.1)] at h8s
     subst h8s
     refine wXR ?_
     exact ⟨(), trivial, by (repeat' (first | exact trivial | refine And.intro (by with_reducible rfl) ?_ | (with_reducible exact Qay _) | (with_reducible exact Qaq _) | refine And.intro ?_ ?_)), wHH⟩
   rintro ⟨⟩ -
   have hll : l.length <= 30001 := by omega
   refine SeqN.plain ?_
   refine wX ?_
   refine LdN.one (a := some ⟨kb, 0, none⟩) (q := 3) (.slice na ns.length nc) rfl (fun w hw => hw.2.2.2.2.2.2.2.1) rfl ?_
   refine wX ?_
   refine Nd.mk ⟨Zcz 1, rfl, rfl⟩ ?_
   (conv => whnf)
   refine AppN.grow 5 (strC ns) [.string (bs t60)] rfl rfl ⟨Zcz 1, ⟨by show (ns.length + 1) * 16 <= _; omega, by omega⟩, by decide⟩ fun nb' nc' g1 g2 => ?_
   refine wX ?_
   refine EffW.appTo (i := 8) (q := 3) (ys := [_]) (Qa2 ⟨⟨8, 0, t0, ns ++ [t60], l⟩, some ⟨nb', 0, none⟩, nc', ia, ic⟩) 5 rfl rfl rfl rfl rfl rfl rfl (Zaz rfl) (by simp [Qa2]) rfl ?_
   refine wXD ?_
   refine DrawN.planC (fun w => SlAt (some ⟨kb, 0, none⟩) 5 (Qa2 ⟨⟨8, 0, t0, ns ++ [t60], l⟩, some ⟨nb', 0, none⟩, nc', ia, ic⟩) w) [0, 2] [(1, 1), (3, 0), (4, 0), (5, 0), (6, 2)] [(7, 0)] (by decide +kernel) (fun w hw => hw.2.2.2.2.2.2.2.1) ?_
   refine wXO ?_
   refine ReadC.one (a := some ⟨kb, 0, none⟩) (q := 4) (.slice ia l.length ic) rfl rfl rfl (fun w hw => hw) rfl ?_
   refine wXO ?_
   refine Qai (hc rb s8 p6 ok7 b7 d5) [0, 1, 2, 3, 4] rfl ⟨rfl, rfl, rfl, rfl, rfl, trivial⟩ rfl fun p7 hp7 => ?_
   have hle := htk.le s8
   have hlt := htk.lt s8
   have hdd := Qq0 (n := n) (st := s8)
   generalize Qav n s8 = r at h1 hp7 hle hlt hdd ⊢
   obtain ⟨z, s7⟩ := r
   simp only at h1 hp7 hle hlt hdd
   refine wXO ?_
   refine Nd.mk ⟨Zcz 1, rfl, rfl⟩ ?_
   (conv => whnf)
   refine AppN.grow 6 (iC l) [.int .i64 z] rfl rfl ⟨Zcz 1, ⟨by show (l.length + 1) * 8 <= _; omega, by omega⟩, by decide⟩ fun ib' ic' g3 g4 => ?_
   refine wXO ?_
   have e1 : iC l ++ [.int .i64 z] = iC (l ++ [z]) := by simp [iC]
   have e2 : l.length + 1 = (l ++ [z]).length := by simp
   have e3 : strC ns ++ [.string (bs t60)] = strC (ns ++ [t60]) := by simp [strC]
   have e4 : ns.length + 1 = (ns ++ [t60]).length := by simp
   refine EffW.appTo (i := 8) (q := 4) (ys := [_]) (Qa2 ⟨⟨8, 0, t0, ns ++ [t60], l ++ [z]⟩, some ⟨nb', 0, none⟩, nc', some ⟨ib', 0, none⟩, ic'⟩) 5 rfl rfl rfl rfl rfl rfl rfl (Zaz rfl) (by simp [Qa2]) rfl ?_
   refine wXO ?_
   refine wXR ?_
   rw [e1, e2, e3, e4]
   refine ⟨(i + 1, ns ++ [t60], l ++ [z], s7, ⟨p7, some ⟨nb', 0, none⟩, nc', some ⟨ib', 0, none⟩, ic'⟩), ⟨by rw [<- h1, show m - (i + 1) = k by omega], by show i + 1 <= m; omega, hp7, b7.le hle, ?_, ?_, by simp; omega, (fun h => by cases h), (fun h => by cases h), by rw [<- e4]; exact g1, by rw [<- e2]; exact g3, ?_⟩, ?_, ?_, ?_⟩
   ·rcases d5 with h | h
    ·exact .inl (Nat.lt_of_le_of_lt hle.s h)
    ·exact .inr (hdd h)
   ·rw [Zhz, List.length_singleton]
    have hs := hle.s
    have hs5 := l5.s
    unfold liv at h6 ⊢
    rw [if_pos he5] at h6
    split
    ·rename_i h9
     have := hlt h9
     omega
    ·omega
   ·intro y hy
    rcases Zmz.1 hy with h | h
    ·exact h12 y h
    ·rw [Zgz.1 h]; exact tl5
   ·show (if s7.e = 0 then s7.s.length + 1 else 0) < if st5.e = 0 then st5.s.length + 1 else 0
    rw [if_pos he5]
    have hs5 := l5.s
    split
    ·rename_i h9
     have := hlt h9
     omega
    ·omega
   ·exact wKK
   ·exact ⟨Qaa _, Qaa _, Qaa _, Qaa _, Qaa _, Qaa _, Qaa _, Qaa _, Qaa _, wHH⟩
  ·rw [show (st5.e == 0) = false by simpa using he5]
   rw [if_neg he5] at h1
   subst h1
   subst hR
   refine wXR ?_
   refine SeqN.plain ?_
   refine wXR ?_
   refine LdN.agg (a := some ⟨kb, 0, none⟩) (q := 0) (Qa2 ⟨⟨8, 0, t0, ns, l⟩, na, nc, ia, ic⟩) rfl (fun w hw => hw.2.2.2.2.2.2.2.1) rfl (fun j _ => by rw [Nat.zero_add]) ?_
   refine wXR ?_
   exact ⟨⟨p5, na, nc, ia, ic⟩, ⟨h3, ⟨h8, h9, by show ns.length <= _; omega, by show l.length <= _; omega, fun s hs => Zwz (h12 s hs) (by omega), by show t0.length <= _; omega, h10, h11⟩⟩, rfl, Qaa _, Qaa _, Qaa _, Qaa _, Qaa _, Qaa _, Qaa _, Qbu _⟩
 ·rw [show decide ((i : Int) < (m : Int)) = false by simpa using hi]
  rw [show m - i = 0 by omega] at h1
  have h1 : ((ns, l), st5) = R2 := h1
  subst h1
  subst hR
  refine wXR ?_
  refine SeqN.plain ?_
  refine wXR ?_
  refine LdN.agg (a := some ⟨kb, 0, none⟩) (q := 0) (Qa2 ⟨⟨8, 0, t0, ns, l⟩, na, nc, ia, ic⟩) rfl (fun w hw => hw.2.2.2.2.2.2.2.1) rfl (fun j _ => by rw [Nat.zero_add]) ?_
  refine wXR ?_
  exact ⟨⟨p5, na, nc, ia, ic⟩, ⟨h3, ⟨h8, h9, by show ns.length <= _; omega, by show l.length <= _; omega, fun s hs => Zwz (h12 s hs) (by omega), by show t0.length <= _; omega, h10, h11⟩⟩, rfl, Qaa _, Qaa _, Qaa _, Qaa _, Qaa _, Qaa _, Qaa _, Qbu _⟩
def obP (t : List UInt8) (ns : List (List UInt8)) (l : List Int) (na : Option Addr) (nc : Nat) (ia : Option Addr) (ic : Nat) : Qaj := ⟨⟨8, 0, t, ns, l⟩, na, nc, ia, ic⟩
structure ObD where
 t : List UInt8
 ns : List (List UInt8)
 l : List Int
 st : PS
 p : RdP
 nm : List Qaj
 na : Option Addr
 nc : Nat
 ia : Option Addr
 ic : Nat
def ObD.c (i : ObD) : Qaj := obP i.t i.ns i.l i.na i.nc i.ia i.ic
structure ObInv (S : List UInt8) (st : PS) (pre : List Qaj) (i : ObD) : Prop where
 ok : OkD i.st i.p
 m : i.p.m = pre ++ i.c :: i.nm
 cell : ∀ q ∈ i.nm, Qa5 q
 left : Left S i.st
 le : Le 0 st i.st
 ll : i.l.length + i.st.s.length + liv i.st <= 30001
 nl : i.ns.length = i.l.length
 na : i.na = none -> i.ns = []
 ia : i.ia = none -> i.l = []
 nb : i.ns.length <= i.nc
 ib : i.l.length <= i.ic
 nw : ∀ s ∈ i.ns, s.length <= 30000
 tl : i.t.length <= 30000
def ownO (i : ObD) : List Ent := [ownS i.ns i.na i.nc, ownI i.l i.ia i.ic]
def RestA (f : St -> Except Int (Int × St)) (k : Nat) (R : Except Int (Unit × St)) (m : Nat) (st : PS) : Prop := (st.e = 0 -> Qen f k m (toS st) = R) /\ (st.e ≠ 0 -> R = .error st.e)
theorem RestA.tel {f : St -> Except Int (Int × St)} {k : Nat} {R : Except Int (Unit × St)} {m : Nat} {st : PS} (h : RestA f k R m st) (hm : st.e = 0 -> m = 0) : Tel R () st := by
 by_cases h0 : st.e = 0
 ·have h1 := h.1 h0
  rw [hm h0] at h1
  rw [<- h1]
  exact Tel.ok h0
 ·rw [h.2 h0]
  exact ⟨rfl, h0⟩
theorem Qk9 : ∀ {m : List Qaj} {j f : Nat} {p q : Qaj} {v : Value}, f < 5 -> m[j]? = some p -> (Qa2 p).set f v = Qa2 q -> (grC m).set (j * 5 + f) v = grC (m.set j q)
 | [], _, _, _, _, _, _, h, _ => by cases h
 | p0 :: m, 0, f, p, q, v, hf, h, e => by
  obtain rfl : p0 = p := Zzz h
  have e1 : grC (p0 :: m) = Qa2 p0 ++ grC m := by simp [grC]
  have e2 : grC (q :: m) = Qa2 q ++ grC m := by simp [grC]
  rw [List.set_cons_zero, e1, e2, <- e, List.set_append_left _ _ (by show 0 * 5 + f < 5; omega), show 0 * 5 + f = f by omega]
 | p0 :: m, j + 1, f, p, q, v, hf, h, e => by
  have ih := Qk9 (m := m) (j := j) hf (by simpa using h) e
  have e1 : grC (p0 :: m) = Qa2 p0 ++ grC m := by simp [grC]
  have e2 : grC (p0 :: m.set j q) = Qa2 p0 ++ grC (m.set j q) := by simp [grC]
  have l5 : (Qa2 p0).length = 5 := rfl
  rw [List.set_cons_succ, e1, e2, <- ih, List.set_append_right _ _ (by rw [l5]; omega), l5, show (j + 1) * 5 + f - 5 = j * 5 + f by omega]
def RestN (f : St -> Except Int (Int × St)) (k : Nat) (R : Except Int (Unit × St)) (st : PS) : Prop := (st.e = 0 -> (Marshal.bnd (numS maxN (toS st)) fun n s => Qen f k n s) = R) /\ (st.e ≠ 0 -> R = .error st.e)
theorem RestN.num {f : St -> Except Int (Int × St)} {k : Nat} {R : Except Int (Unit × St)} {st : PS} (h : RestN f k R st) : RestA f k R (numM maxN st).1 (numM maxN st).2 := by
 by_cases h0 : st.e = 0
 ·have htel := (Ref.num maxN).tel h0
  have h1 := h.1 h0
  refine ⟨fun h2 => ?_, fun h2 => ?_⟩
  ·rw [htel.live h2] at h1
   exact h1
  ·rw [htel.dead h2] at h1
   exact h1.symm
 ·rw [Qeu h0]
  exact ⟨fun h2 => absurd h2 h0, h.2⟩
theorem Qxc {f : St -> Except Int (Int × St)} {k : Nat} {R : Except Int (Unit × St)} {x : UInt8} {t : List UInt8} {s1 s2 s3 : PS} (hR : (Marshal.bnd (symS x (toS s1)) fun t st => if Go.Scan.icB t = true then Marshal.bnd (numS maxN (setT k t st)) fun n st => Qen f k n st else .error 4) = R) (tel : Tel (symS x (toS s1)) t s2)
  (h3 : s3 = if s2.e = 0 /\ Go.Scan.icB t = false then Qam s2 4 else s2) (hg : s2.g.getD k nilC = ⟨8, 0, [], [], []⟩) : RestN f k R (putG k ⟨8, 0, t, [], []⟩ s3) := by
 by_cases h2 : s2.e = 0
 ·rw [tel.live h2] at hR
  have hR : (if Go.Scan.icB t = true then Marshal.bnd (numS maxN (setT k t (toS s2))) fun n st => Qen f k n st else .error 4) = R := hR
  cases hic : Go.Scan.icB t with
  | true =>
   rw [if_pos hic] at hR
   rw [if_neg (fun h => by rw [hic] at h; cases h.2)] at h3
   subst h3
   refine ⟨fun _ => ?_, fun h => absurd h2 h⟩
   rw [<- hR]
   have : setT k t (toS s3) = toS (putG k ⟨8, 0, t, [], []⟩ s3) := by
    unfold setT toS putG
    simp only [hg]
   rw [this]
  | false =>
   rw [if_neg (by rw [hic]; decide)] at hR
   rw [if_pos ⟨h2, hic⟩] at h3
   have h4 : s3.e = 4 := by rw [h3]; exact Qcq h2 4
   refine ⟨fun h => ?_, fun _ => ?_⟩
   ·have : s3.e = 0 := h
    rw [h4] at this
    exact absurd this (by decide)
   ·show R = .error s3.e
    rw [h4]
    exact hR.symm
 ·rw [tel.dead h2] at hR
  rw [if_neg (fun h => h2 h.1)] at h3
  subst h3
  exact ⟨fun h => absurd h h2, fun _ => hR.symm⟩
theorem Qv0 {f : St -> Except Int (Int × St)} {k m : Nat} {R : Except Int (Unit × St)} {x : UInt8} {t : List UInt8} {ns : List (List UInt8)} {st s5 s6 s7 : PS} (he : st.e = 0) (hr : RestA f k R (m + 1) st) (tel5 : Tel (Qc2 (toS st)) x s5) (h5 : s5.e = 0) (tel6 : Tel (symS x (toS s5)) t s6) (hn : (s6.g.getD k nilC).names = ns)
  (h7 : s7 = if s6.e = 0 /\ ¬ (Go.Scan.iiB t = true /\ t ∉ ns) then Qam s6 4 else s6) : (s7.e = 0 -> s7 = s6 /\ (Marshal.bnd (f (toS s6)) fun i st => Qen f k m (putA k t i st)) = R) /\ (s7.e ≠ 0 -> R = .error s7.e) := by
 have hR := hr.1 he
 unfold Qen at hR
 rw [tel5.live h5] at hR
 have hR : (Marshal.bnd (symS x (toS s5)) fun t st => if Go.Scan.iiB t = true /\ t ∉ (st.g.getD k nilC).names then Marshal.bnd (f st) fun i st => Qen f k m (putA k t i st) else .error 4) = R := hR
 by_cases h6 : s6.e = 0
 ·rw [tel6.live h6] at hR
  have hR : (if Go.Scan.iiB t = true /\ t ∉ (s6.g.getD k nilC).names then Marshal.bnd (f (toS s6)) fun i st => Qen f k m (putA k t i st) else .error 4) = R := hR
  rw [hn] at hR
  by_cases hc : Go.Scan.iiB t = true /\ t ∉ ns
  ·rw [if_pos hc] at hR
   rw [if_neg (fun h => h.2 hc)] at h7
   exact ⟨fun _ => ⟨h7, hR⟩, fun h => absurd (by rw [h7]; exact h6) h⟩
  ·rw [if_neg hc] at hR
   rw [if_pos ⟨h6, hc⟩] at h7
   have h4 : s7.e = 4 := by rw [h7]; exact Qcq h6 4
   exact ⟨fun h => absurd (h4.symm.trans h) (by decide), fun _ => by rw [h4]; exact hR.symm⟩
 ·rw [tel6.dead h6] at hR
  rw [if_neg (fun h => h6 h.1)] at h7
  exact ⟨fun h => absurd (by rw [<- h7]; exact h) h6, fun _ => by rw [h7]; exact hR.symm⟩
theorem Qvz {f : St -> Except Int (Int × St)} {pre nm : List Qaj} {q : Qaj} {t : List UInt8} {R : Except Int (Unit × St)} {m : Nat} {s6 ds : PS} {dp : RdP} {dv : Int} (hR : (Marshal.bnd (f (toS s6)) fun i st => Qen f pre.length m (putA pre.length t i st)) = R) (tel : Tel (f (toS s6)) dv ds) (ok : OkD ds dp) (hm : dp.m = pre ++ q :: nm) (c : Cell) (hc : c = { q.c with names := q.c.names ++ [t], items := q.c.items ++ [dv] }) :
  RestA f pre.length R m (putG pre.length c ds) := by
 refine ⟨fun h => ?_, fun h => ?_⟩
 ·have h0 : ds.e = 0 := h
  rw [tel.live h0] at hR
  have hR : Qen f pre.length m (putA pre.length t dv (toS ds)) = R := hR
  rw [<- hR]
  congr 1
  have hg := Qk4 ok.g (k := pre.length) (q := q) (by rw [hm]; exact Qfy _ _ _)
  unfold putA toS putG
  simp only [hg, hc]
 ·have h0 : ds.e ≠ 0 := h
  rw [tel.dead h0] at hR
  exact hR.symm
theorem ObInv.go {S : List UInt8} {st : PS} {pre : List Qaj} {t : List UInt8} {ns : List (List UInt8)} {l : List Int} {s5 : PS} {p5 : RdP} {nm : List Qaj} {na : Option Addr} {nc : Nat} {ia : Option Addr} {ic : Nat} (h : ObInv S st pre ⟨t, ns, l, s5, p5, nm, na, nc, ia, ic⟩) {s6 : PS} {p6 : RdP} (ok : OkD s6 p6) (hp : p6.m = p5.m) (hl : Left S s6) (le : Le 0 s5 s6) (hd : s5.e ≠ 0 -> s6.e ≠ 0) : ObInv S st pre ⟨t, ns, l, s6, p6, nm, na, nc, ia, ic⟩ := by
 refine ⟨ok, hp.trans h.m, h.cell, hl, h.le.trans le, ?_, h.nl, h.na, h.ia, h.nb, h.ib, h.nw, h.tl⟩
 have h1 : l.length + s5.s.length + liv s5 <= 30001 := h.ll
 have h2 := le.s
 show l.length + s6.s.length + liv s6 <= 30001
 unfold liv at h1 ⊢
 by_cases h0 : s5.e = 0
 ·rw [if_pos h0] at h1
  split <;> omega
 ·rw [if_neg h0] at h1
  rw [if_neg (hd h0)]
  omega
theorem Qvy {f : St -> Except Int (Int × St)} {k m : Nat} {R : Except Int (Unit × St)} {x : UInt8} {st s5 : PS} (he : st.e = 0) (hr : RestA f k R (m + 1) st) (tel : Tel (Qc2 (toS st)) x s5) (h5 : s5.e ≠ 0) : Tel R () s5 := by
 have hR := hr.1 he
 unfold Qen at hR
 rw [tel.dead h5] at hR
 rw [<- hR]
 exact ⟨rfl, h5⟩
set_option maxHeartbeats 4000000 in
theorem Qwv (n : Nat) (hc : Qwd n) (rb : Nat) (S : List UInt8) (hS : S.length <= 20000) (st : PS) (p : RdP) (pre : List Qaj) (ok : OkD st p) (hm2 : p.m = pre ++ [obP [] [] [] none 0 none 0]) (bd : Bd (Qaz st (pre.length : Int))) (hl : Left S st) (h0 : st.e = 0) (hn : st.s.length < n) (nm0 : List Qaj) :
  SpecH Tryz.prog 102 [.c (.v (.pointer (some ⟨rb, 0, none⟩))), .c (.v (.int .i64 (pre.length : Int)))] (dE rb S st p nm0 ++ [ownS [] none 0, ownI [] none 0])
   (RetG (ι := ObD) (fun i => ObInv S (Qaz st (pre.length : Int)) pre i /\ Tel (objD (Qc8 n) pre.length (toS (Qaz st (pre.length : Int)))) () i.st) (fun _ => .tuple #[]) (fun i => dE rb S i.st i.p (nm0 ++ i.nm) ++ ownO i)) := by
 refine Qz7 hm Tryz.func102 (by kernel_rfl) rfl rfl (fun _ _ => Qan rfl) (fun _ _ => Zaz rfl) ?_
 have hpl : p.m.length = pre.length + 1 := by rw [hm2]; simp
 have hbg := bd.g
 have hbc := bd.cl
 have hbp := bd.pot
 have hbc2 : st.cells.length + 1 <= st.g.length := by simpa [Qaz] using hbc
 have hbg2 : st.g.length <= 500 := hbg
 refine SeqN.plain ?_
 refine wX ?_
 refine LdN.one (a := some ⟨rb, 0, none⟩) (q := 3) (.slice p.ca st.cells.length p.cc) rfl (fun w hw => hw.1) rfl ?_
 refine wX ?_
 refine Nd.mk ⟨Zcz 1, rfl, rfl⟩ ?_
 (conv => whnf)
 refine AppN.grow 3 (iC st.cells) [.int .i64 (pre.length : Int)] rfl rfl ⟨Zcz 1, ⟨by show (st.cells.length + 1) * 8 <= _; omega, by omega⟩, by decide⟩ fun cb cc' g1 g2 => ?_
 refine wX ?_
 have e1 : iC st.cells ++ [.int .i64 (pre.length : Int)] = iC (st.cells ++ [(pre.length : Int)]) := by simp [iC]
 have e2 : st.cells.length + 1 = (st.cells ++ [(pre.length : Int)]).length := by simp
 rw [e1, e2]
 refine EffW.appTo (i := 0) (q := 3) (ys := [_]) (ddC S (Qaz st (pre.length : Int)) ({ p with ca := some ⟨cb, 0, none⟩, cc := cc' } : RdP)) 6 rfl rfl rfl rfl rfl rfl rfl (Zaz rfl) rfl rfl ?_
 have ok1 : OkD (Qaz st (pre.length : Int)) ({ p with ca := some ⟨cb, 0, none⟩, cc := cc' } : RdP) := ⟨ok.g, ok.ga, (fun h => by cases h), ok.sa, ok.sw, ok.gx⟩
 have hl1 : Left S (Qaz st (pre.length : Int)) := hl
 have h01 : ((Qaz st (pre.length : Int))).e = 0 := h0
 have hn1 : ((Qaz st (pre.length : Int))).s.length < n := hn
 have hm3 : (({ p with ca := some ⟨cb, 0, none⟩, cc := cc' } : RdP)).m = pre ++ [obP [] [] [] none 0 none 0] := hm2
 obtain ⟨R, hR⟩ : ∃ R, objD (Qc8 n) pre.length (toS (Qaz st (pre.length : Int))) = R := ⟨_, rfl⟩
 rw [hR]
 unfold objD at hR
 have hnx := Qr0 rb S (by omega) (Qaz st (pre.length : Int)) ({ p with ca := some ⟨cb, 0, none⟩, cc := cc' } : RdP) nm0 hl1
 have htel := Ref.next.tel h01
 have ok2 := ok1.same (Qc6 (Qaz st (pre.length : Int)))
 have le2 := Qdd (Qaz st (pre.length : Int))
 have hl2 := hl1.next
 have les := Qho (Qaz st (pre.length : Int))
 generalize Qad (Qaz st (pre.length : Int)) = q at hnx htel ok2 le2 hl2 les
 obtain ⟨x, s1⟩ := q
 simp only at hnx htel ok2 le2 hl2 les
 refine SeqN.plain ?_
 refine wX ?_
 refine Qai (hnx) [0, 1, 2, 3, 4] rfl ⟨rfl, rfl, rfl, rfl, rfl, trivial⟩ rfl fun _ _ => ?_
 refine wX ?_
 refine SeqN.plain ?_
 refine SeqN.plain ?_
 refine wX ?_
 refine LdN.one (a := some ⟨rb, 0, none⟩) (q := 5) (.int .i64 s1.e) rfl (fun w hw => hw.1) rfl ?_
 refine wX ?_
 refine Qbb (fun he => ?_) (fun he => ?_)
 ·refine wX ?_
  have hb2 := le2.s
  refine ⟨⟨[], [], [], s1, ({ p with ca := some ⟨cb, 0, none⟩, cc := cc' } : RdP), [], none, 0, none, 0⟩, ⟨⟨ok2, hm3, (fun q hq => by cases hq), hl2, le2, ?_, rfl, fun _ => rfl, fun _ => rfl, Zcz _, Zcz _, (fun s hs => by cases hs), Zkz _⟩, ?_⟩, rfl, Qaa _, Qaa _, ?_, Qaa _, Qaa _, Qaa _, Qaa _, Qbu _⟩
  ·show 0 + s1.s.length + liv s1 <= _
   unfold liv
   rw [if_neg he]
   have h9 : ((Qaz st (pre.length : Int))).s.length <= 30000 := by omega
   omega
  ·rw [<- hR]
   exact htel.bnd (fun h => absurd h he) (fun _ => rfl)
  ·show wkE (.fact _) (.fact fun w => ∀ q ∈ nm0 ++ [], Qbn q w)
   rw [List.append_nil]
   exact Qaa _
 have hs1 : s1.s.length <= 30000 := by
  have h8 : ((Qaz st (pre.length : Int))).s.length <= 30000 := by omega
  have := le2.s
  omega
 have hss1 : s1.ss.length < 100000 := by
  have := le2.pot
  have h8 : ((Qaz st (pre.length : Int))).ss.length + ((Qaz st (pre.length : Int))).s.length <= 30000 := hbp
  omega
 have hR1 := hR
 rw [htel.live he] at hR1
 have hsym := Qjt rb S (by omega) x s1 ({ p with ca := some ⟨cb, 0, none⟩, cc := cc' } : RdP) nm0 hl2 ok2.sa hss1
 have htel2 := (Ref.symD x).tel he
 have oks := fun i hi => ok2.sym hs1 x (i := i) hi
 have hl3 := Qh0 hl2 x
 have hlen := (Qhz x s1 hs1 ok2.sw).1
 have hkp := Qfe x s1
 generalize symD x s1 = q at hsym htel2 oks hl3 hlen les hkp
 obtain ⟨t, s2⟩ := q
 simp only at hsym htel2 oks hl3 hlen les hkp
 obtain ⟨s3, hs3⟩ : ∃ s3, s3 = if s2.e = 0 /\ Go.Scan.icB t = false then Qam s2 4 else s2 := ⟨_, rfl⟩
 refine SeqN.plain ?_
 refine wX ?_
 refine Qai hsym [0, 1, 2, 3, 4] rfl ⟨rfl, rfl, rfl, rfl, rfl, trivial⟩ rfl fun i2 hi2 => ?_
 have ok3 := oks i2 hi2
 have hm4 : ({ ({ p with ca := some ⟨cb, 0, none⟩, cc := cc' } : RdP) with sa := i2.1, sc := i2.2 } : RdP).m = pre ++ [obP [] [] [] none 0 none 0] := hm3
 obtain ⟨p2, hp2⟩ : ∃ p2 : RdP, p2 = { ({ p with ca := some ⟨cb, 0, none⟩, cc := cc' } : RdP) with sa := i2.1, sc := i2.2 } := ⟨_, rfl⟩
 rw [<- hp2] at ok3 hm4 ⊢
 have ok4 : OkD s3 p2 := by
  rw [hs3]
  split
  ·exact ok3.same (Qbj s2 4)
  ·exact ok3
 have hl4 : Left S s3 := by
  rw [hs3]
  split
  ·exact hl3.fail 4
  ·exact hl3
 have le4 : Le 0 (Qaz st (pre.length : Int)) s3 := by
  rw [hs3]
  split
  ·exact les.trans (Qcj s2 4)
  ·exact les
 have hrn := Qxc hR1 htel2 hs3 (Qk4 ok3.g (by rw [hm4]; exact Qfy _ _ _))
 refine wX ?_
 refine SeqN.join Unit (fun _ => True) (fun _ => mkS Tryz.f102.ntmps 0 [(0, .c (.v (.pointer (some ⟨rb, 0, none⟩)))), (1, .c (.v (.int .i64 (pre.length : Int)))), (5, .c (.v (.string (bs t))))])
  (fun _ => dE rb S s3 p2 nm0 ++ [ownS [] none 0, ownI [] none 0, .dead]) (fun _ _ => Zaz rfl) (fun _ _ => rfl) (fun _ _ => Qan rfl) ?_ ?_
 ·refine SeqN.plain ?_
  refine wX ?_
  refine LdN.one (a := some ⟨rb, 0, none⟩) (q := 5) (.int .i64 s2.e) rfl (fun w hw => hw.1) rfl ?_
  refine wX ?_
  by_cases h2 : s2.e = 0
  ·rw [show (s2.e == 0) = true by rw [h2]; rfl]
   refine wX ?_
   refine Qao (Qtg t (by omega) _) ?_
   cases hic : Go.Scan.icB t with
   | true =>
    rw [if_neg (fun h => by rw [hic] at h; cases h.2)] at hs3
    subst hs3
    refine wX ?_
    exact ⟨(), trivial, by (repeat' (first | exact trivial | refine And.intro (by with_reducible rfl) ?_ | (with_reducible exact Qay _) | (with_reducible exact Qaq _) | refine And.intro ?_ ?_)), wHH⟩
   | false =>
    rw [if_pos ⟨h2, hic⟩] at hs3
    subst hs3
    refine wX ?_
    refine Qai (Qga rb S s2 p2 nm0 4) [0, 1, 2, 3, 4] rfl ⟨rfl, rfl, rfl, rfl, rfl, trivial⟩ rfl fun _ _ => ?_
    refine wX ?_
    exact ⟨(), trivial, by (repeat' (first | exact trivial | refine And.intro (by with_reducible rfl) ?_ | (with_reducible exact Qay _) | (with_reducible exact Qaq _) | refine And.intro ?_ ?_)), wHH⟩
  ·rw [show (s2.e == 0) = false by simpa using h2]
   rw [if_neg (fun h => h2 h.1)] at hs3
   subst hs3
   refine wX ?_
   exact ⟨(), trivial, by (repeat' (first | exact trivial | refine And.intro (by with_reducible rfl) ?_ | (with_reducible exact Qay _) | (with_reducible exact Qaq _) | refine And.intro ?_ ?_)), wHH⟩
 rintro ⟨⟩ -
 clear hs3 hsym hnx oks htel2
 obtain ⟨m2, ga2, gc2, ca2, cc2, sa2, sc2⟩ := p2
 simp only at hm4
 have hml : m2.length = pre.length + 1 := by rw [hm4]; simp
 obtain ⟨gb, rfl⟩ : ∃ b : Nat, ga2 = some ⟨b, 0, none⟩ := ok4.gx.resolve_left fun h => by
  have h9 : m2 = [] := ok4.ga h
  rw [h9, List.length_nil] at hml
  omega
 have hgk : m2[pre.length]? = some (obP [] [] [] none 0 none 0) := by rw [hm4]; exact Qfy _ _ _
 have hgl : m2.length <= 500 := by
  have := (bd.le le4).g
  rw [<- ok4.g, List.length_map] at this
  exact this
 refine SeqN.plain ?_
 refine wX ?_
 refine LdN.one (a := some ⟨rb, 0, none⟩) (q := 2) (.slice (some ⟨gb, 0, none⟩) m2.length gc2) rfl (fun w hw => hw.1) rfl ?_
 refine wX ?_
 refine Nd.mk ⟨rfl, by omega, by omega⟩ ?_
 refine wX ?_
 have hq2 : pre.length * 5 + 2 < (grC m2).length := by rw [Qgr]; omega
 refine EffW.appTo (i := 1) (q := pre.length * 5 + 2) (ys := [.string (bs t)]) (grC (m2.set pre.length (obP t [] [] none 0 none 0))) 5 rfl (by rw [Zdz]; show AV.c (CV.v (Value.pointer (some (((⟨gb, 0, none⟩ : Addr).add (pre.length * 5)).add 2)))) = _; rw [Qck, add_lit]) rfl rfl rfl rfl rfl (by show pre.length * 5 + 2 + 1 <= m2.length * 5; omega) ((Qfw _ hq2).trans (Qk9 (by omega) hgk rfl)) rfl ?_
 have hrc : ddC S s3 ⟨m2, some ⟨gb, 0, none⟩, gc2, ca2, cc2, sa2, sc2⟩ = ddC S (putG pre.length ⟨8, 0, t, [], []⟩ s3) ⟨m2.set pre.length (obP t [] [] none 0 none 0), some ⟨gb, 0, none⟩, gc2, ca2, cc2, sa2, sc2⟩ := by simp [ddC, putG]
 have hls : (m2.set pre.length (obP t [] [] none 0 none 0)).length = m2.length := by rw [List.length_set]
 have ok5 := ok4.put pre.length (obP t [] [] none 0 none 0) (by show pre.length < m2.length; omega)
 have hm5 : m2.set pre.length (obP t [] [] none 0 none 0) = pre ++ [obP t [] [] none 0 none 0] := by rw [hm4, Qm9]
 have le5 := le4.trans (Qrs pre.length ⟨8, 0, t, [], []⟩ s3)
 have hl5 : Left S (putG pre.length ⟨8, 0, t, [], []⟩ s3) := hl4
 refine wX ?_
 rw [hrc, <- hls]
 generalize m2.set pre.length (obP t [] [] none 0 none 0) = m3 at ok5 hm5 hls ⊢
 have ok5 : OkD (putG pre.length ⟨8, 0, t, [], []⟩ s3) ⟨m3, some ⟨gb, 0, none⟩, gc2, ca2, cc2, sa2, sc2⟩ := ok5
 have hnum := Qh9 rb S (by omega) (putG pre.length ⟨8, 0, t, [], []⟩ s3) ⟨m3, some ⟨gb, 0, none⟩, gc2, ca2, cc2, sa2, sc2⟩ nm0 hl5 maxN
 have hra := hrn.num
 have ok6 := ok5.same (Qb7 maxN (putG pre.length ⟨8, 0, t, [], []⟩ s3))
 have le6 := le5.trans (Qc4 maxN (putG pre.length ⟨8, 0, t, [], []⟩ s3))
 have hl6 := hl5.num maxN
 have hmm := Qea maxN (putG pre.length ⟨8, 0, t, [], []⟩ s3)
 generalize numM maxN (putG pre.length ⟨8, 0, t, [], []⟩ s3) = q at hnum hra ok6 le6 hl6 hmm
 obtain ⟨m, s5⟩ := q
 simp only at hnum hra ok6 le6 hl6 hmm
 have hmm : m <= 1000000000000000 := hmm
 refine SeqN.plain ?_
 refine wX ?_
 refine Qai (hnum) [0, 1, 2, 3, 4] rfl ⟨rfl, rfl, rfl, rfl, rfl, trivial⟩ rfl fun _ _ => ?_
 refine wX ?_
 refine SeqN.plain ?_
 refine wX ?_
 refine LoopN.intro (Nat × ObD) (fun ⟨i, ob⟩ => i <= m /\ ObInv S (Qaz st (pre.length : Int)) pre ob /\ RestA (Qc8 n) pre.length R (m - i) ob.st)
  (fun ⟨i, _⟩ => mkS Tryz.f102.ntmps 0 [(0, .c (.v (.pointer (some ⟨rb, 0, none⟩)))), (1, .c (.v (.int .i64 (pre.length : Int)))), (6, .c (.v (.int .i64 (m : Int)))), (7, .c (.v (.int .i64 (i : Int))))])
  (fun ⟨_, ob⟩ => dE rb S ob.st ob.p (nm0 ++ ob.nm) ++ ownO ob ++ [.dead]) (fun ⟨i, _⟩ => m - i) [] rfl
  (fun _ => rfl) (fun _ => rfl) (fun _ _ => Qan rfl) ⟨(0, ⟨t, [], [], s5, ⟨m3, some ⟨gb, 0, none⟩, gc2, ca2, cc2, sa2, sc2⟩, [], none, 0, none, 0⟩), ⟨Zkz _, ⟨ok6, hm5, (fun q hq => by cases hq), hl6, le6, ?_, rfl, fun _ => rfl, fun _ => rfl, Zcz _, Zcz _, (fun s hs => by cases hs), hlen⟩, hra⟩, ?_, ?_⟩ ?_
 ·have h7 := le6.s
  unfold liv
  show 0 + s5.s.length + _ <= _
  have h9 : ((Qaz st (pre.length : Int))).s.length <= 30000 := by omega
  split <;> omega
 ·exact wKK
 ·refine ⟨Qaa _, Qaa _, ?_, Qaa _, Qaa _, Qaa _, Qaa _, wHH⟩
  show wkE (.fact _) (.fact fun w => ∀ q ∈ nm0 ++ [], Qbn q w)
  rw [List.append_nil]
  exact Qaa _
 rintro ⟨i, ⟨t, ns, l, st5, p5, nm5, na, nc, ia, ic⟩⟩ ⟨h1, hi, hr⟩
 clear hra ok6 le6 hl6 hnum hrn ok5 le5 hl5 hgk ok4 le4 hl4 hrc hls hm5
 simp only at hi hr
 refine SeqN.plain ?_
 refine SeqN.plain ?_
 refine wX ?_
 by_cases hlt : i < m
 ·rw [show decide ((i : Int) < (m : Int)) = true by simpa using hlt]
  refine wX ?_
  refine LdN.one (a := some ⟨rb, 0, none⟩) (q := 5) (.int .i64 st5.e) rfl (fun w hw => hw.1) rfl ?_
  refine wX ?_
  by_cases he5 : st5.e = 0
  ·rw [show (st5.e == 0) = true by rw [he5]; rfl]
   refine wX ?_
   refine SeqN.plain ?_
   refine SeqN.plain ?_
   obtain ⟨r, hr3, hr4⟩ : ∃ r, m - i = r + 1 /\ m - (i + 1) = r := ⟨m - (i + 1), by omega, rfl⟩
   rw [hr3] at hr
   have hs5 := Qno hi.left
   have hs5 : st5.s.length <= S.length := hs5
   have hnx5 := Qr0 rb S (by omega) st5 p5 (nm0 ++ nm5) hi.left
   have tel5 := Ref.next.tel he5
   have okx := hi.ok.same (Qc6 st5)
   have lex := Qdd st5
   have hlx := hi.left.next
   have les5 := Qho st5
   have hgx := Qc6 st5
   generalize Qad st5 = q at hnx5 tel5 okx lex hlx les5 hgx
   obtain ⟨x5, s51⟩ := q
   simp only at hnx5 tel5 okx lex hlx les5 hgx
   refine wX ?_
   refine Qai (hnx5) [0, 1, 2, 3, 4] rfl ⟨rfl, rfl, rfl, rfl, rfl, trivial⟩ rfl fun _ _ => ?_
   refine wX ?_
   refine SeqN.plain ?_
   refine SeqN.plain ?_
   refine wX ?_
   refine LdN.one (a := some ⟨rb, 0, none⟩) (q := 5) (.int .i64 s51.e) rfl (fun w hw => hw.1) rfl ?_
   refine wX ?_
   refine Qbb (fun he6 => ?_) (fun he6 => ?_)
   ·refine wX ?_
    exact ⟨⟨t, ns, l, s51, p5, nm5, na, nc, ia, ic⟩, ⟨hi.go okx rfl hlx lex (fun h => absurd he5 h), Qvy he5 hr tel5 he6⟩, rfl, Qaa _, Qaa _, Qaa _, Qaa _, Qaa _, Qaa _, Qaa _, wHH⟩
   have b51 := (bd.le hi.le).le lex
   have hb51 := b51.pot
   have hsym5 := Qjt rb S (by omega) x5 s51 p5 (nm0 ++ nm5) hlx okx.sa (by omega)
   have tel6 := (Ref.symD x5).tel he6
   have oks5 := fun i hi => okx.sym (by omega) x5 (i := i) hi
   have hl6 := Qh0 hlx x5
   have hlen6 := (Qhz x5 s51 (by omega) okx.sw).1
   have hkp6 := Qfe x5 s51
   generalize symD x5 s51 = q at hsym5 tel6 oks5 hl6 hlen6 les5 hkp6
   obtain ⟨t6, s6⟩ := q
   simp only at hsym5 tel6 oks5 hl6 hlen6 les5 hkp6
   obtain ⟨s7, hs7⟩ : ∃ s7, s7 = if s6.e = 0 /\ ¬ (Go.Scan.iiB t6 = true /\ t6 ∉ ns) then Qam s6 4 else s6 := ⟨_, rfl⟩
   refine SeqN.plain ?_
   refine wX ?_
   refine Qai hsym5 [0, 1, 2, 3, 4] rfl ⟨rfl, rfl, rfl, rfl, rfl, trivial⟩ rfl fun i6 hi6 => ?_
   have ok6 := oks5 i6 hi6
   have hm6 : ({ p5 with sa := i6.1, sc := i6.2 } : RdP).m = p5.m := rfl
   obtain ⟨p6, hp6⟩ : ∃ p6 : RdP, p6 = { p5 with sa := i6.1, sc := i6.2 } := ⟨_, rfl⟩
   rw [<- hp6] at ok6 hm6 ⊢
   have hpm : p6.m = pre ++ obP t ns l na nc ia ic :: nm5 := hm6.trans hi.m
   have hgn : (s6.g.getD pre.length nilC).names = ns := by rw [Qk4 ok6.g (by rw [hpm]; exact Qfy _ _ _)]; rfl
   have ha := Qv0 he5 hr tel5 he6 tel6 hgn hs7
   have ok7 : OkD s7 p6 := by
    rw [hs7]
    split
    ·exact ok6.same (Qbj s6 4)
    ·exact ok6
   have hl7 : Left S s7 := by
    rw [hs7]
    split
    ·exact hl6.fail 4
    ·exact hl6
   have le7 : Le 0 st5 s7 := by
    rw [hs7]
    split
    ·exact les5.trans (Qcj s6 4)
    ·exact les5
   clear hsym5 oks5 hnx5
   obtain ⟨m6, ga6, gc6, ca6, cc6, sa6, sc6⟩ := p6
   simp only at hpm
   have hml6 : m6.length = pre.length + 1 + nm5.length := by rw [hpm]; simp; omega
   obtain ⟨gb, rfl⟩ : ∃ b : Nat, ga6 = some ⟨b, 0, none⟩ := ok7.gx.resolve_left fun h => by
    have h9 : m6 = [] := ok7.ga h
    rw [h9, List.length_nil] at hml6
    omega
   have hgk6 : m6[pre.length]? = some (obP t ns l na nc ia ic) := by rw [hpm]; exact Qfy _ _ _
   have hnll : ns.length <= 30001 := by have h8 : l.length + st5.s.length + liv st5 <= 30001 := hi.ll; have h9 : ns.length = l.length := hi.nl; omega
   refine wX ?_
   refine SeqN.join Unit (fun _ => True) (fun _ => mkS Tryz.f102.ntmps 0 [(0, .c (.v (.pointer (some ⟨rb, 0, none⟩)))), (1, .c (.v (.int .i64 (pre.length : Int)))), (5, .c (.v (.string (bs t6)))), (6, .c (.v (.int .i64 (m : Int)))), (7, .c (.v (.int .i64 (i : Int))))])
    (fun _ => dE rb S s7 ⟨m6, some ⟨gb, 0, none⟩, gc6, ca6, cc6, sa6, sc6⟩ (nm0 ++ nm5) ++ [ownS ns na nc, ownI l ia ic, .dead]) (fun _ _ => Zaz rfl) (fun _ _ => rfl) (fun _ _ => Qan rfl) ?_ ?_
   ·refine SeqN.plain ?_
    refine wX ?_
    refine LdN.one (a := some ⟨rb, 0, none⟩) (q := 5) (.int .i64 s6.e) rfl (fun w hw => hw.1) rfl ?_
    refine wX ?_
    by_cases h6 : s6.e = 0
    ·rw [show (s6.e == 0) = true by rw [h6]; rfl]
     refine wX ?_
     refine Qao (Qv9 t6 (by omega) _) ?_
     cases hii : Go.Scan.iiB t6 with
     | false =>
      rw [if_pos ⟨h6, fun h => by rw [hii] at h; cases h.1⟩] at hs7
      subst hs7
      refine wX ?_
      refine Qai (Qga rb S s6 ⟨m6, some ⟨gb, 0, none⟩, gc6, ca6, cc6, sa6, sc6⟩ (nm0 ++ nm5) 4) [0, 1, 2, 3, 4] rfl ⟨rfl, rfl, rfl, rfl, rfl, trivial⟩ rfl fun _ _ => ?_
      refine wX ?_
      exact ⟨(), trivial, by (repeat' (first | exact trivial | refine And.intro (by with_reducible rfl) ?_ | (with_reducible exact Qay _) | (with_reducible exact Qaq _) | refine And.intro ?_ ?_)), wHH⟩
     | true =>
      refine wX ?_
      refine LdN.one (a := some ⟨rb, 0, none⟩) (q := 2) (.slice (some ⟨gb, 0, none⟩) m6.length gc6) rfl (fun w hw => hw.1) rfl ?_
      refine wX ?_
      refine Nd.mk ⟨rfl, by omega, by omega⟩ ?_
      refine wX ?_
      refine LdN.fld (.slice na ns.length nc) rfl (fun w hw => hw.2.1) (by rw [Zdz]; exact Qau m6 _ 3 (by decide) hgk6) ?_
      refine wX ?_
      refine Qao (QBb na ns nc t6 hi.na (by omega) _ (fun w hw => hw.2.2.2.2.2.1)) ?_
      by_cases hmem : t6 ∈ ns
      ·rw [show decide (t6 ∈ ns) = true from decide_eq_true hmem]
       rw [if_pos ⟨h6, fun h => h.2 hmem⟩] at hs7
       subst hs7
       refine wX ?_
       refine Qai (Qga rb S s6 ⟨m6, some ⟨gb, 0, none⟩, gc6, ca6, cc6, sa6, sc6⟩ (nm0 ++ nm5) 4) [0, 1, 2, 3, 4] rfl ⟨rfl, rfl, rfl, rfl, rfl, trivial⟩ rfl fun _ _ => ?_
       refine wX ?_
       exact ⟨(), trivial, by (repeat' (first | exact trivial | refine And.intro (by with_reducible rfl) ?_ | (with_reducible exact Qay _) | (with_reducible exact Qaq _) | refine And.intro ?_ ?_)), wHH⟩
      ·rw [show decide (t6 ∈ ns) = false from decide_eq_false hmem]
       rw [if_neg (fun h => h.2 ⟨hii, hmem⟩)] at hs7
       subst hs7
       refine wX ?_
       exact ⟨(), trivial, by (repeat' (first | exact trivial | refine And.intro (by with_reducible rfl) ?_ | (with_reducible exact Qay _) | (with_reducible exact Qaq _) | refine And.intro ?_ ?_)), wHH⟩
    ·rw [show (s6.e == 0) = false by simpa using h6]
     rw [if_neg (fun h => h6 h.1)] at hs7
     subst hs7
     refine wX ?_
     exact ⟨(), trivial, by (repeat' (first | exact trivial | refine And.intro (by with_reducible rfl) ?_ | (with_reducible exact Qay _) | (with_reducible exact Qaq _) | refine And.intro ?_ ?_)), wHH⟩
   rintro ⟨⟩ -
   clear hs7
   refine SeqN.plain ?_
   refine SeqN.plain ?_
   refine wX ?_
   refine LdN.one (a := some ⟨rb, 0, none⟩) (q := 5) (.int .i64 s7.e) rfl (fun w hw => hw.1) rfl ?_
   refine wX ?_
   refine Qbb (fun he7 => ?_) (fun he7 => ?_)
   ·refine wX ?_
    exact ⟨⟨t, ns, l, s7, ⟨m6, some ⟨gb, 0, none⟩, gc6, ca6, cc6, sa6, sc6⟩, nm5, na, nc, ia, ic⟩, ⟨hi.go ok7 hm6 hl7 le7 (fun h => absurd he5 h), by rw [ha.2 he7]; exact ⟨rfl, he7⟩⟩, rfl, Qaa _, Qaa _, Qaa _, Qaa _, Qaa _, Qaa _, Qaa _, wHH⟩
   obtain ⟨rfl, hR7⟩ := ha.1 he7
   have b7 := (bd.le hi.le).le le7
   have hs7l := le7.s
   have hn5 : st5.s.length <= ((Qaz st (pre.length : Int))).s.length := hi.le.s
   have hform := hc rb S s7 ⟨m6, some ⟨gb, 0, none⟩, gc6, ca6, cc6, sa6, sc6⟩ (nm0 ++ nm5) hS ok7 b7 hl7 he7 (by omega)
   refine SeqN.plain ?_
   refine wX ?_
   refine Qai hform [0, 1, 2, 3, 4] rfl ⟨rfl, rfl, rfl, rfl, rfl, trivial⟩ rfl fun d hd => ?_
   obtain ⟨dv, ds, dp, dn⟩ := d
   obtain ⟨ok8, hm8, hc8, hl8, le8, lt8, tel8⟩ := hd
   simp only at ok8 hm8 hc8 hl8 le8 lt8 tel8
   obtain ⟨dm, dga, dgc, dca, dcc, dsa, dsc⟩ := dp
   simp only at hm8
   have hdm : dm = pre ++ obP t ns l na nc ia ic :: (nm5 ++ dn) := by rw [hm8, hpm]; simp
   have hdl : dm.length = pre.length + 1 + (nm5 ++ dn).length := by rw [hdm]; simp; omega
   obtain ⟨gb2, rfl⟩ : ∃ b : Nat, dga = some ⟨b, 0, none⟩ := ok8.gx.resolve_left fun h => by
    have h9 : dm = [] := ok8.ga h
    rw [h9, List.length_nil] at hdl
    omega
   have hgkd : dm[pre.length]? = some (obP t ns l na nc ia ic) := by rw [hdm]; exact Qfy _ _ _
   have hgbd : dm.length <= 500 := by
    have := (b7.le le8).g
    rw [<- ok8.g, List.length_map] at this
    exact this
   have hll : l.length <= 30001 := by have h8 : l.length + st5.s.length + liv st5 <= 30001 := hi.ll; omega
   have hq3 : pre.length * 5 + 3 < (grC dm).length := by rw [Qgr]; omega
   refine wX ?_
   refine SeqN.plain ?_
   refine wXK ?_
   refine DrawN.planC (fun w => SlAt (some ⟨rb, 0, none⟩) 6 (ddC S ds ⟨dm, some ⟨gb2, 0, none⟩, dgc, dca, dcc, dsa, dsc⟩) w /\ SlAt (some ⟨gb2, 0, none⟩) (dm.length * 5) (grC (dm)) w) [0, 4, 5, 9, 13] [(1, 1), (2, 2), (3, 1), (6, 1), (7, 2), (8, 1), (10, 1), (11, 2), (12, 1), (14, 0), (15, 0)] [(16, 0), (17, 0), (18, 0)] (by decide +kernel) (fun w hw => ⟨hw.1, hw.2.1⟩) ?_
   refine wXO ?_
   refine ReadC.one (a := some ⟨rb, 0, none⟩) (q := 2) (.slice (some ⟨gb2, 0, none⟩) dm.length dgc) rfl rfl rfl (fun w hw => hw.1) rfl ?_
   refine wXO ?_
   refine ReadC.one (a := some ⟨rb, 0, none⟩) (q := 2) (.slice (some ⟨gb2, 0, none⟩) dm.length dgc) rfl rfl rfl (fun w hw => hw.1) rfl ?_
   refine wXO ?_
   refine ReadC.idxA (e := 87) (sz := 5) pre.length rfl Tryz.underlying36 rfl rfl rfl rfl rfl (by omega) ?_
   refine wXO ?_
   refine ReadC.one (a := some ⟨gb2, 0, none⟩) (q := pre.length * 5 + 3) (.slice na ns.length nc) rfl (Qqg rfl) rfl (fun w hw => hw.2) (Qau _ _ 3 (by omega) hgkd) ?_
   (conv => whnf)
   refine RwN.own ?_
   (conv => whnf)
   refine Nd.mk (fun w hw => ⟨hw.1, hw.2.1⟩) ?_
   (conv => whnf)
   refine Nd.mk ⟨Zcz 1, rfl, rfl⟩ ?_
   (conv => whnf)
   refine AppN.grow 5 (strC ns) [.string (bs t6)] rfl rfl ⟨Zcz 1, ⟨by show (ns.length + 1) * 16 <= _; omega, by omega⟩, by decide⟩ fun nb' nc' g3 g4 => ?_
   (conv => whnf)
   refine Nd.mk (fun w hw => ⟨hw.1, hw.2.1⟩) ?_
   (conv => whnf)
   refine Nd.mk ⟨rfl, by omega, by omega⟩ ?_
   (conv => whnf)
   have e3 : strC ns ++ [.string (bs t6)] = strC (ns ++ [t6]) := by simp [strC]
   have e4 : ns.length + 1 = (ns ++ [t6]).length := by simp
   rw [e3, e4]
   refine EffW.appTo (i := 1) (q := pre.length * 5 + 3) (ys := [.slice (some ⟨nb', 0, none⟩) (ns ++ [t6]).length nc']) (grC (dm.set pre.length (obP t (ns ++ [t6]) l (some ⟨nb', 0, none⟩) nc' ia ic))) 5 rfl (by rw [Zdz]; show AV.c (CV.v (Value.pointer (some (((⟨gb2, 0, none⟩ : Addr).add (pre.length * 5)).add 3)))) = _; rw [Qck, add_lit]) rfl rfl rfl rfl rfl (by show pre.length * 5 + 3 + 1 <= dm.length * 5; omega) ((Qfw _ hq3).trans (Qk9 (by omega) hgkd rfl)) rfl ?_
   have hgk2 : (dm.set pre.length (obP t (ns ++ [t6]) l (some ⟨nb', 0, none⟩) nc' ia ic))[pre.length]? = some (obP t (ns ++ [t6]) l (some ⟨nb', 0, none⟩) nc' ia ic) := List.getElem?_set_self (by omega)
   have hq4 : pre.length * 5 + 4 < (grC (dm.set pre.length (obP t (ns ++ [t6]) l (some ⟨nb', 0, none⟩) nc' ia ic))).length := by rw [Qgr, List.length_set]; omega
   have hss2 : (dm.set pre.length (obP t (ns ++ [t6]) l (some ⟨nb', 0, none⟩) nc' ia ic)).set pre.length (obP t (ns ++ [t6]) (l ++ [dv]) (some ⟨nb', 0, none⟩) nc' ia ic) = dm.set pre.length (obP t (ns ++ [t6]) (l ++ [dv]) (some ⟨nb', 0, none⟩) nc' ia ic) := List.set_set _
   refine wXK ?_
   refine DrawN.planC (fun w => SlAt (some ⟨rb, 0, none⟩) 6 (ddC S ds ⟨dm, some ⟨gb2, 0, none⟩, dgc, dca, dcc, dsa, dsc⟩) w /\ SlAt (some ⟨gb2, 0, none⟩) (dm.length * 5) (grC (dm.set pre.length (obP t (ns ++ [t6]) l (some ⟨nb', 0, none⟩) nc' ia ic))) w) [0, 4, 5, 9, 13] [(1, 1), (2, 2), (3, 1), (6, 1), (7, 2), (8, 1), (10, 1), (11, 2), (12, 1), (14, 0), (15, 0)] [(16, 0), (17, 0), (18, 0)] (by decide +kernel) (fun w hw => ⟨hw.1, hw.2.1⟩) ?_
   refine wXO ?_
   refine ReadC.one (a := some ⟨rb, 0, none⟩) (q := 2) (.slice (some ⟨gb2, 0, none⟩) dm.length dgc) rfl rfl rfl (fun w hw => hw.1) rfl ?_
   refine wXO ?_
   refine ReadC.one (a := some ⟨rb, 0, none⟩) (q := 2) (.slice (some ⟨gb2, 0, none⟩) dm.length dgc) rfl rfl rfl (fun w hw => hw.1) rfl ?_
   refine wXO ?_
   refine ReadC.idxA (e := 87) (sz := 5) pre.length rfl Tryz.underlying36 rfl rfl rfl rfl rfl (by omega) ?_
   refine wXO ?_
   refine ReadC.one (a := some ⟨gb2, 0, none⟩) (q := pre.length * 5 + 4) (.slice ia l.length ic) rfl (Qqg rfl) rfl (fun w hw => hw.2) (Qau _ _ 4 (by omega) hgk2) ?_
   (conv => whnf)
   refine RwN.own ?_
   (conv => whnf)
   refine Nd.mk (fun w hw => ⟨hw.1, hw.2.1⟩) ?_
   (conv => whnf)
   refine Nd.mk ⟨Zcz 1, rfl, rfl⟩ ?_
   (conv => whnf)
   refine AppN.grow 6 (iC l) [.int .i64 dv] rfl rfl ⟨Zcz 1, ⟨by show (l.length + 1) * 8 <= _; omega, by omega⟩, by decide⟩ fun ib' ic' g5 g6 => ?_
   (conv => whnf)
   refine Nd.mk (fun w hw => ⟨hw.1, hw.2.1⟩) ?_
   (conv => whnf)
   refine Nd.mk ⟨rfl, by omega, by omega⟩ ?_
   (conv => whnf)
   have e5 : iC l ++ [.int .i64 dv] = iC (l ++ [dv]) := by simp [iC]
   have e6 : l.length + 1 = (l ++ [dv]).length := by simp
   rw [e5, e6]
   refine EffW.appTo (i := 1) (q := pre.length * 5 + 4) (ys := [.slice (some ⟨ib', 0, none⟩) (l ++ [dv]).length ic']) (grC (dm.set pre.length (obP t (ns ++ [t6]) (l ++ [dv]) (some ⟨nb', 0, none⟩) nc' (some ⟨ib', 0, none⟩) ic'))) 5 rfl (by rw [Zdz]; show AV.c (CV.v (Value.pointer (some (((⟨gb2, 0, none⟩ : Addr).add (pre.length * 5)).add 4)))) = _; rw [Qck, add_lit]) rfl rfl rfl rfl rfl (by show pre.length * 5 + 4 + 1 <= dm.length * 5; omega) ((Qfw _ hq4).trans ((Qk9 (q := obP t (ns ++ [t6]) (l ++ [dv]) (some ⟨nb', 0, none⟩) nc' (some ⟨ib', 0, none⟩) ic') (by omega) hgk2 rfl).trans (by rw [List.set_set]))) rfl ?_
   refine wX ?_
   have okp := ok8.put pre.length (obP t (ns ++ [t6]) (l ++ [dv]) (some ⟨nb', 0, none⟩) nc' (some ⟨ib', 0, none⟩) ic') (by show pre.length < dm.length; omega)
   have hnl : ns.length = l.length := hi.nl
   have hst := Qvz hR7 tel8 ok8 hdm (obP t (ns ++ [t6]) (l ++ [dv]) (some ⟨nb', 0, none⟩) nc' (some ⟨ib', 0, none⟩) ic').c rfl
   refine ⟨(i + 1, ⟨t, ns ++ [t6], l ++ [dv], putG pre.length (obP t (ns ++ [t6]) (l ++ [dv]) (some ⟨nb', 0, none⟩) nc' (some ⟨ib', 0, none⟩) ic').c ds, ⟨dm.set pre.length (obP t (ns ++ [t6]) (l ++ [dv]) (some ⟨nb', 0, none⟩) nc' (some ⟨ib', 0, none⟩) ic'), some ⟨gb2, 0, none⟩, dgc, dca, dcc, dsa, dsc⟩, nm5 ++ dn, some ⟨nb', 0, none⟩, nc', some ⟨ib', 0, none⟩, ic'⟩), ⟨by omega, ⟨okp, ?_, fun q hq => (Zmz.1 hq).elim (hi.cell q) (hc8 q), hl8, ((hi.le.trans le7).trans le8).trans (Qrs _ _ _), ?_, by simp [hnl], (fun h => by cases h), (fun h => by cases h), by rw [<- e4]; exact g3, by rw [<- e6]; exact g5, ?_, hi.tl⟩, by rw [hr4]; exact hst⟩, by show m - (i + 1) < m - i; omega, ?_, ?_⟩
   ·show dm.set _ _ = _
    rw [hdm, Qm9]
    rfl
   ·show (l ++ [dv]).length + ds.s.length + liv (putG _ _ ds) <= _
    have h8 : l.length + st5.s.length + liv st5 <= 30001 := hi.ll
    have h9 := le8.s
    rw [Zhz, List.length_singleton]
    unfold liv at h8 ⊢
    rw [if_pos he5] at h8
    show _ + (if ds.e = 0 then _ else _) <= _
    split
    ·rename_i h
     have := lt8 h
     omega
    ·omega
   ·intro y hy
    rcases Zmz.1 hy with h | h
    ·exact hi.nw y h
    ·rw [Zgz.1 h]; exact hlen6
   ·exact wKK
   ·have hrc2 : ddC S (putG pre.length (obP t (ns ++ [t6]) (l ++ [dv]) (some ⟨nb', 0, none⟩) nc' (some ⟨ib', 0, none⟩) ic').c ds) ⟨dm.set pre.length (obP t (ns ++ [t6]) (l ++ [dv]) (some ⟨nb', 0, none⟩) nc' (some ⟨ib', 0, none⟩) ic'), some ⟨gb2, 0, none⟩, dgc, dca, dcc, dsa, dsc⟩ = ddC S ds ⟨dm, some ⟨gb2, 0, none⟩, dgc, dca, dcc, dsa, dsc⟩ := by simp [ddC, putG]
    refine ⟨?_, ?_, Qml _ _ _, Qaa _, Qaa _, Qaa _, Qaa _, wHH⟩
    ·show wkE (.app 109 6 (ddC S ds ⟨dm, some ⟨gb2, 0, none⟩, dgc, dca, dcc, dsa, dsc⟩) _ 1 1) (.app 109 6 (ddC S (putG _ _ ds) _) _ 1 1)
     rw [hrc2]
     exact Qaa _
    ·show wkE (.app 87 5 _ _ dm.length _) (.app 87 5 _ _ (dm.set _ _).length _)
     rw [List.length_set]
     exact Qaa _
  ·rw [show (st5.e == 0) = false by simpa using he5]
   refine wX ?_
   exact ⟨_, ⟨hi, hr.tel fun h => absurd h he5⟩, rfl, Qaa _, Qaa _, Qaa _, Qaa _, Qaa _, Qaa _, Qaa _, wHH⟩
 ·rw [show decide ((i : Int) < (m : Int)) = false by simpa using hlt]
  refine wX ?_
  exact ⟨_, ⟨hi, hr.tel fun h => by omega⟩, rfl, Qaa _, Qaa _, Qaa _, Qaa _, Qaa _, Qaa _, Qaa _, wHH⟩
theorem Qcn {c : Cell} (hn : c.names = []) (hi : c.items = []) (ht : c.text.length <= 30000) : Qa5 ⟨c, none, 0, none, 0⟩ :=
 ⟨fun _ => hn, fun _ => hi, by rw [hn]; exact Zkz _, by rw [hi]; exact Zkz _, (fun s hs => by rw [hn] at hs; cases hs), by show c.text.length <= _; omega, by rw [hn]; exact Zcz _, by rw [hi]; exact Zcz _⟩
theorem Qr4 (n : Nat) (hc : Qtl n) (rb : Nat) (st : PS) (p : RdP) (ok : RdOk st p) (bd : Bd st) (hn : st.s.length < n \/ st.e ≠ 0) (x : UInt8) (hx : x ∈ Qbl) : SpecH Tryz.prog 89 [.c (.v (.pointer (some ⟨rb, 0, none⟩))), .c (.v (.int .u8 (x.toNat : Int)))] (rdE rb st p) (RetG (ι := ObP) (fun i => RdOk (Qbo (Qav n) x st).2 i.p /\ Qa5 ⟨(Qbo (Qav n) x st).1, i.na, i.nc, i.ia, i.ic⟩) (fun i => Qpv ⟨(Qbo (Qav n) x st).1, i.na, i.nc, i.ia, i.ic⟩) fun i => rdE rb (Qbo (Qav n) x st).2 i.p ++ [ownS (Qbo (Qav n) x st).1.names i.na i.nc, ownI (Qbo (Qav n) x st).1.items i.ia i.ic]) := by
 have bp := bd.pot
 have htk := Qdo n
 simp only [Qbl, List.mem_cons, List.not_mem_nil, or_false] at hx
 rcases hx with rfl | rfl | rfl | rfl | rfl | rfl | rfl | rfl | rfl | rfl
 ·refine SpecH.pad [.app 9 1 [] none 0 0, .app 3 1 [] none 0 0] rfl ?_
  refine ownC hm Tryz.func89 (by kernel_rfl) rfl rfl (fun _ _ => Qan rfl) (fun _ _ => Zaz rfl) ?_
  refine wX ?_
  exact ⟨⟨p, none, 0, none, 0⟩, ⟨ok, Qcn rfl rfl (Zkz _)⟩, rfl, Qaa _, Qaa _, Qaa _, Qaa _, Qaa _, Qaa _, Qaa _, Qbu _⟩
 ·refine SpecH.pad [.app 9 1 [] none 0 0, .app 3 1 [] none 0 0] rfl ?_
  refine ownC hm Tryz.func89 (by kernel_rfl) rfl rfl (fun _ _ => Qan rfl) (fun _ _ => Zaz rfl) ?_
  refine wX ?_
  exact ⟨⟨p, none, 0, none, 0⟩, ⟨ok, Qcn rfl rfl (Zkz _)⟩, rfl, Qaa _, Qaa _, Qaa _, Qaa _, Qaa _, Qaa _, Qaa _, Qbu _⟩
 ·refine SpecH.pad [.app 9 1 [] none 0 0, .app 3 1 [] none 0 0] rfl ?_
  refine ownC hm Tryz.func89 (by kernel_rfl) rfl rfl (fun _ _ => Qan rfl) (fun _ _ => Zaz rfl) ?_
  refine wX ?_
  exact ⟨⟨p, none, 0, none, 0⟩, ⟨ok, Qcn rfl rfl (Zkz _)⟩, rfl, Qaa _, Qaa _, Qaa _, Qaa _, Qaa _, Qaa _, Qaa _, Qbu _⟩
 ·have hk := Qb7 (2 * maxN) st
  have hmo := Qea (2 * maxN) st
  have hnum := Qf0 rb st p (2 * maxN) (by decide)
  have e : Qbo (Qav n) 105 st = (⟨3, Qcr (numM (2 * maxN) st).1, [], [], []⟩, (numM (2 * maxN) st).2) := rfl
  rw [e]
  clear e
  generalize numM (2 * maxN) st = q at hk hmo hnum ⊢
  obtain ⟨m, s2⟩ := q
  simp only at hk hmo hnum
  have hmo : m <= 2000000000000000 := hmo
  refine SpecH.pad [.app 9 1 [] none 0 0, .app 3 1 [] none 0 0] rfl ?_
  refine ownC hm Tryz.func89 (by kernel_rfl) rfl rfl (fun _ _ => Qan rfl) (fun _ _ => Zaz rfl) ?_
  refine wX ?_
  refine Qai (hnum) [0, 1, 2, 3, 4] rfl ⟨rfl, rfl, rfl, rfl, rfl, trivial⟩ rfl fun _ _ => ?_
  refine wX ?_
  have em : (m : Int).tmod 2 = ((m % 2 : Nat) : Int) := (Int.ofNat_tmod m 2).symm
  have ed : (m : Int).tdiv 2 = ((m / 2 : Nat) : Int) := (Int.ofNat_tdiv m 2).symm
  refine Qa0 (fun h => ?_) (fun h => ?_)
  ·have hu : Qcr m = -(((m + 1) / 2 : Nat) : Int) := by unfold Qcr; rw [if_pos (by omega)]
   refine wX ?_
   rw [show IntKind.i64.wrap ((IntKind.i64.wrap (0 - IntKind.i64.wrap ((m : Int) + 1))).tdiv 2) = Qcr m by
    rw [Qaf (x := (m : Int) + 1) (by omega), Qaf (x := 0 - ((m : Int) + 1)) (by omega), show (0 : Int) - ((m : Int) + 1) = -(((m + 1 : Nat)) : Int) by omega, Int.neg_tdiv, show ((m + 1 : Nat) : Int).tdiv 2 = (((m + 1) / 2 : Nat) : Int) from (Int.ofNat_tdiv (m + 1) 2).symm, Qaf (by omega), hu]]
   exact ⟨⟨p, none, 0, none, 0⟩, ⟨ok.same hk, Qcn rfl rfl (Zkz _)⟩, rfl, Qaa _, Qaa _, Qaa _, Qaa _, Qaa _, Qaa _, Qaa _, Qbu _⟩
  ·have hu : Qcr m = ((m / 2 : Nat) : Int) := by unfold Qcr; rw [if_neg (by omega)]
   refine wX ?_
   rw [show IntKind.i64.wrap ((m : Int).tdiv 2) = Qcr m by rw [ed, Qaf (by omega), hu]]
   exact ⟨⟨p, none, 0, none, 0⟩, ⟨ok.same hk, Qcn rfl rfl (Zkz _)⟩, rfl, Qaa _, Qaa _, Qaa _, Qaa _, Qaa _, Qaa _, Qaa _, Qbu _⟩
 ·have hk := Qey maxN st
  have hl := Qhx maxN st
  have ht := Qtw rb st p maxN
  have e : Qbo (Qav n) 34 st = (⟨4, 0, (Qa7 maxN st).1, [], []⟩, (Qa7 maxN st).2) := rfl
  rw [e]
  clear e
  generalize Qa7 maxN st = q at hk hl ht ⊢
  obtain ⟨t, s2⟩ := q
  simp only at hk hl ht
  refine SpecH.pad [.app 9 1 [] none 0 0, .app 3 1 [] none 0 0] rfl ?_
  refine ownC hm Tryz.func89 (by kernel_rfl) rfl rfl (fun _ _ => Qan rfl) (fun _ _ => Zaz rfl) ?_
  refine wX ?_
  refine Qai (ht) [0, 1, 2, 3, 4] rfl ⟨rfl, rfl, rfl, rfl, rfl, trivial⟩ rfl fun _ _ => ?_
  refine wX ?_
  exact ⟨⟨p, none, 0, none, 0⟩, ⟨ok.same hk, Qcn rfl rfl (by show t.length <= _; omega)⟩, rfl, Qaa _, Qaa _, Qaa _, Qaa _, Qaa _, Qaa _, Qaa _, Qbu _⟩
 ·have hs := Qhy rb 58 st p ok (by omega)
  have ho := fun i hi => ok.sym (by omega) 58 (i := i) hi
  have hl := Qju 58 st (by omega) ok.sw
  have e : Qbo (Qav n) 58 st = (⟨5, 0, (symM 58 st).1, [], []⟩, (symM 58 st).2) := rfl
  rw [e]
  clear e
  generalize symM 58 st = q at hs ho hl ⊢
  obtain ⟨t, s2⟩ := q
  simp only at hs ho hl
  refine SpecH.pad [.app 9 1 [] none 0 0, .app 3 1 [] none 0 0] rfl ?_
  refine ownC hm Tryz.func89 (by kernel_rfl) rfl rfl (fun _ _ => Qan rfl) (fun _ _ => Zaz rfl) ?_
  refine wX ?_
  refine Qai hs [0, 1, 2, 3, 4] rfl ⟨rfl, rfl, rfl, rfl, rfl, trivial⟩ rfl fun i hi => ?_
  refine wX ?_
  exact ⟨⟨{ p with sa := i.1, sc := i.2 }, none, 0, none, 0⟩, ⟨ho i hi, Qcn rfl rfl hl⟩, rfl, Qaa _, Qaa _, Qaa _, Qaa _, Qaa _, Qaa _, Qaa _, Qbu _⟩
 ·have hs := Qhy rb 59 st p ok (by omega)
  have ho := fun i hi => ok.sym (by omega) 59 (i := i) hi
  have hl := Qju 59 st (by omega) ok.sw
  have e : Qbo (Qav n) 59 st = (⟨5, 0, (symM 59 st).1, [], []⟩, (symM 59 st).2) := rfl
  rw [e]
  clear e
  generalize symM 59 st = q at hs ho hl ⊢
  obtain ⟨t, s2⟩ := q
  simp only at hs ho hl
  refine SpecH.pad [.app 9 1 [] none 0 0, .app 3 1 [] none 0 0] rfl ?_
  refine ownC hm Tryz.func89 (by kernel_rfl) rfl rfl (fun _ _ => Qan rfl) (fun _ _ => Zaz rfl) ?_
  refine wX ?_
  refine Qai hs [0, 1, 2, 3, 4] rfl ⟨rfl, rfl, rfl, rfl, rfl, trivial⟩ rfl fun i hi => ?_
  refine wX ?_
  exact ⟨⟨{ p with sa := i.1, sc := i.2 }, none, 0, none, 0⟩, ⟨ho i hi, Qcn rfl rfl hl⟩, rfl, Qaa _, Qaa _, Qaa _, Qaa _, Qaa _, Qaa _, Qaa _, Qbu _⟩
 ·have hnum := Qf0 rb st p maxN (by decide)
  have hk := Qb7 maxN st
  have hmo := Qea maxN st
  have hle := Qc4 maxN st
  have hnn := Qgs hn (Qc4 maxN st) (fun h => by rw [Qeu h])
  have e : Qbo (Qav n) 91 st = (⟨6, 0, [], [], (Qbh (Qav n) ((numM maxN st).1) [] (numM maxN st).2).1⟩, (Qbh (Qav n) ((numM maxN st).1) [] (numM maxN st).2).2) := rfl
  rw [e]
  clear e
  generalize numM maxN st = q at hnum hk hmo hle hnn ⊢
  obtain ⟨m, s2⟩ := q
  simp only at hnum hk hmo hle hnn
  have hmo : m <= 1000000000000000 := hmo
  have b2 := bd.le hle
  have hit := Qr3 n hc rb s2 p (ok.same hk) b2 hnn (m) (by omega)
  have hil := (Qg1 htk (m) [] s2).2
  simp only
  generalize Qbh (Qav n) (m) [] s2 = r at hit hil ⊢
  obtain ⟨l, s3⟩ := r
  simp only at hit hil
  have hll : l.length <= 30001 := by
   have := b2.pot
   have h9 : liv s2 <= 1 := by unfold liv; split <;> omega
   have h8 : ([] : List Int).length = 0 := rfl
   omega
  refine SpecH.pad [.app 9 1 [] none 0 0, .app 3 1 [] none 0 0] rfl ?_
  refine ownC hm Tryz.func89 (by kernel_rfl) rfl rfl (fun _ _ => Qan rfl) (fun _ _ => Zaz rfl) ?_
  refine wX ?_
  refine Qai (hnum) [0, 1, 2, 3, 4] rfl ⟨rfl, rfl, rfl, rfl, rfl, trivial⟩ rfl fun _ _ => ?_
  refine wX ?_
  refine Qai hit [0, 1, 2, 3, 4, 6] rfl ⟨rfl, rfl, rfl, rfl, rfl, rfl, trivial⟩ rfl fun i hi => ?_
  refine wX ?_
  exact ⟨⟨i.1, none, 0, i.2.1, i.2.2⟩, ⟨hi.1, ⟨fun _ => rfl, hi.2.1, Zkz _, by show l.length <= _; omega, (fun s hs => by cases hs), Zkz _, Zcz _, hi.2.2⟩⟩, rfl, Qaa _, Qaa _, Qaa _, Qaa _, Qaa _, Qaa _, Qaa _, Qbu _⟩
 ·have hnum := Qf0 rb st p maxN (by decide)
  have hk := Qb7 maxN st
  have hmo := Qea maxN st
  have hle := Qc4 maxN st
  have hnn := Qgs hn (Qc4 maxN st) (fun h => by rw [Qeu h])
  have e : Qbo (Qav n) 123 st = (⟨7, 0, [], [], (Qbh (Qav n) (2 * (numM maxN st).1) [] (numM maxN st).2).1⟩, (Qbh (Qav n) (2 * (numM maxN st).1) [] (numM maxN st).2).2) := rfl
  rw [e]
  clear e
  generalize numM maxN st = q at hnum hk hmo hle hnn ⊢
  obtain ⟨m, s2⟩ := q
  simp only at hnum hk hmo hle hnn
  have hmo : m <= 1000000000000000 := hmo
  have b2 := bd.le hle
  have hit := Qr3 n hc rb s2 p (ok.same hk) b2 hnn (2 * m) (by omega)
  have hil := (Qg1 htk (2 * m) [] s2).2
  simp only
  generalize Qbh (Qav n) (2 * m) [] s2 = r at hit hil ⊢
  obtain ⟨l, s3⟩ := r
  simp only at hit hil
  have hll : l.length <= 30001 := by
   have := b2.pot
   have h9 : liv s2 <= 1 := by unfold liv; split <;> omega
   have h8 : ([] : List Int).length = 0 := rfl
   omega
  refine SpecH.pad [.app 9 1 [] none 0 0, .app 3 1 [] none 0 0] rfl ?_
  refine ownC hm Tryz.func89 (by kernel_rfl) rfl rfl (fun _ _ => Qan rfl) (fun _ _ => Zaz rfl) ?_
  refine wX ?_
  refine Qai (hnum) [0, 1, 2, 3, 4] rfl ⟨rfl, rfl, rfl, rfl, rfl, trivial⟩ rfl fun _ _ => ?_
  refine wX ?_
  first | rw [show IntKind.i64.wrap (2 * (m : Int)) = ((2 * m : Nat) : Int) by rw [Qaf (by omega)]; omega] | rw [show 2 * (m : Int) = ((2 * m : Nat) : Int) by omega]
  refine Qai hit [0, 1, 2, 3, 4, 6] rfl ⟨rfl, rfl, rfl, rfl, rfl, rfl, trivial⟩ rfl fun i hi => ?_
  refine wX ?_
  exact ⟨⟨i.1, none, 0, i.2.1, i.2.2⟩, ⟨hi.1, ⟨fun _ => rfl, hi.2.1, Zkz _, by show l.length <= _; omega, (fun s hs => by cases hs), Zkz _, Zcz _, hi.2.2⟩⟩, rfl, Qaa _, Qaa _, Qaa _, Qaa _, Qaa _, Qaa _, Qaa _, Qbu _⟩
 ·have hob := Quw n hc rb st p ok bd hn
  have e : Qbo (Qav n) 111 st = objM (Qav n) st := rfl
  rw [e]
  clear e
  generalize objM (Qav n) st = r at hob ⊢
  obtain ⟨c, s3⟩ := r
  simp only at hob
  refine SpecH.pad [.app 9 1 [] none 0 0, .app 3 1 [] none 0 0] rfl ?_
  refine ownC hm Tryz.func89 (by kernel_rfl) rfl rfl (fun _ _ => Qan rfl) (fun _ _ => Zaz rfl) ?_
  refine wX ?_
  refine Qai hob [0, 1, 2, 3, 4, 5, 6] rfl ⟨rfl, rfl, rfl, rfl, rfl, rfl, rfl, trivial⟩ rfl fun i hi => ?_
  refine wX ?_
  exact ⟨i, hi, rfl, Qaa _, Qaa _, Qaa _, Qaa _, Qaa _, Qaa _, Qaa _, Qbu _⟩
end Go.Proofs.YtgogonnnojcioaaGreatDoor
namespace Go.AX
def Qjr (P : Program) (c : Code) : List AV -> List Ent -> (Ex -> List AV -> List Ent -> Prop) -> Prop :=
 Code.rec (motive := fun _ => List AV -> List Ent -> (Ex -> List AV -> List Ent -> Prop) -> Prop)
  (fun s H K => K .normal s H)
  (fun _ ops draw s H K => Qfv P ops draw s H K)
  (fun _ _ ia ib s H K => SeqN ia ib s H K)
  (fun c _ _ ia ib s H K => Qpr c s (fun s => ia s H K) (fun s => ib s H K))
  (fun id _ ib s H K => ib s H (Qgb id K))
  (fun _ ib s H K => LoopN ib s H K)
  (fun _ _ _ _ _ _ _ _ _ => False)
  (fun id s H K => K (.exit id) s H)
  (fun _ ib s H K => ib s H K)
  (fun _ s H K => K .normal s H)
  (fun _ _ _ _ => False)
  (fun s H K => K .ret s H)
  (fun _ _ _ _ => False)
  c
theorem Qqw {P : Program} (hm : P.follows .mixedOrders = true) : ∀ (c : Code) (s : List AV) (H : List Ent) (K : Ex -> List AV -> List Ent -> Prop), Qjr P c s H K ->
  ∀ (ρ : List Loc) (S : Nat -> Prop) (w : World) (a : Act), Sat ρ S H w -> RelS ρ s a.tmps.toList -> c.wp P (Post ρ S H w a.defers K) a w := by
 intro c
 induction c with
 | skip => intro s H K h ρ S w a hs hr; exact wp_skip ⟨ρ, S, s, H, .normal, hs, Ev.refl _ _ _ _, hr, rfl, trivial, h⟩
 | label l => intro s H K h ρ S w a hs hr; exact wp_label ⟨ρ, S, s, H, .normal, hs, Ev.refl _ _ _ _, hr, rfl, trivial, h⟩
 | exit id => intro s H K h ρ S w a hs hr; exact wp_exit ⟨ρ, S, s, H, .exit id, hs, Ev.refl _ _ _ _, hr, rfl, rfl, h⟩
 | ret => intro s H K h ρ S w a hs hr; exact wp_ret ⟨ρ, S, s, H, .ret, hs, Ev.refl _ _ _ _, hr, rfl, trivial, h⟩
 | goto l => intro s H K h; exact h.elim
 | refuse y => intro s H K h; exact h.elim
 | scope b ih =>
  intro s H K h0 ρ S w a hs hr
  have h : Qjr P b s H K := h0
  refine wp_scope_straight (wp_mono (ih s H K h ρ S w a hs hr) fun e a' w' hp => ?_)
  cases e with
  | goto l =>
   obtain ⟨ρ1, S1, s1, H1, ex, hs1, hev, hr1, hd, hex, hK⟩ := hp
   cases ex <;> exact hex.elim
  | _ => exact hp
 | rangeFunc f ps _ b _ _ => intro s H K h; exact h.elim
 | region id ops draw =>
  intro s H K h0 ρ S w a hs hr
  have h : Qfv P ops draw s H K := h0
  clear h0
  unfold Qfv at h
  split at h
  ·exact wp_region_list (Qdy _ _ _ h ρ S w a hs hr)
  ·have h0 : Cls ρ S H w { w with drawn := w.drawn + 1 } := ⟨S, hs.heap rfl, Ev.drew _ _ _ _⟩
   rcases h with ⟨hB, h⟩ | ⟨pre, hd, tl, hB, h⟩ | ⟨pre, hd, tl, hB, h⟩ | ⟨C, pre, hd, tl, hB, hC, h⟩ | ⟨pre, t, n, hB, h⟩ | h
   ·refine wp_region_quiet (C := Cls ρ S H w) hm hB h0 ?_
    have hq := Qe1 ⟨_, h0⟩ _ _ h a hr
    refine exec_sound.wpQuiet_mono (fun a' ⟨s', hK, hr', hd⟩ w' ⟨S', hs', hev⟩ => ?_) _ _ hq
    exact ⟨ρ, S', s', H, .normal, hs', hev, hr', hd, trivial, hK⟩
   ·exact Qiy hm hB h hs hr
   ·exact Qhm hm hB h hs hr
   ·exact Qhn hm hB hC h hs hr
   ·exact Qiu hm hB h hs hr
   ·exact h _ ρ S w a hs hr
 | seq x y ihx ihy =>
  intro s H K h0 ρ S w a hs hr
  have h : SeqN (Qjr P x) (Qjr P y) s H K := h0
  have key : ∀ K2 : Ex -> List AV -> List Ent -> Prop, Qjr P x s H K2 -> (∀ (e : Ex) (s1 : List AV) (H1 : List Ent) (ρ1 : List Loc) (S1 : Nat -> Prop) (w1 : World) (a1 : Act), K2 e s1 H1 -> Sat ρ1 S1 H1 w1 -> Ev ρ S H w ρ1 S1 H1 w1 -> relX e ρ1 s1 a1.tmps.toList -> ∃ s2 H2 ρ2 S2, Sat ρ2 S2 H2 w1 /\ Ev ρ S H w ρ2 S2 H2 w1 /\ relX e ρ2 s2 a1.tmps.toList /\ seqK (Qjr P y) K e s2 H2) -> (Code.seq x y).wp P (Post ρ S H w a.defers K) a w := by
   intro K2 h2 hk
   refine wp_seq (wp_mono (ihx s H K2 h2 ρ S w a hs hr) fun e a' w' hp => ?_)
   obtain ⟨ρ0, S0, s0, H0, ex, hs0, hev0, hr0, hd, hex, hK0⟩ := hp
   obtain ⟨s1, H1, ρ1, S1, hs1, hev, hr1, hK⟩ := hk ex s0 H0 ρ0 S0 w' a' hK0 hs0 hev0 hr0
   cases ex with
   | normal =>
    cases e <;> first | exact hex.elim | skip
    refine wp_mono (ihy s1 H1 K hK ρ1 S1 w' a' hs1 hr1) fun e2 a2 w2 hp2 => ?_
    rw [hd] at hp2
    exact hp2.from hev
   | exit n => cases e <;> first | exact hex.elim | exact ⟨ρ1, S1, s1, H1, .exit n, hs1, hev, hr1, hd, hex, hK⟩
   | ret => cases e <;> first | exact hex.elim | exact ⟨ρ1, S1, s1, H1, .ret, hs1, hev, hr1, hd, hex, hK⟩
   | pan n => cases e <;> first | exact hex.elim | exact ⟨ρ1, S1, s1, H1, .pan n, hs1, hev, hr1, hd, hex, hK⟩
  rcases h with h | ⟨ι, inv, sl, hp, hlen, hoks, hokh, h, hnext⟩
  ·exact key _ h fun e s1 H1 ρ1 S1 w1 a1 hK hs1 hev hr1 => ⟨s1, H1, ρ1, S1, hs1, hev, hr1, hK⟩
  ·simp only [Qcv, Qc9] at hnext
   refine key _ h fun e s1 H1 ρ1 S1 w1 a1 hK hs1 hev hr1 => ?_
   cases e with
   | normal =>
    obtain ⟨j, hij, hws, hwh⟩ := hK
    have hw := hs1.weak hwh (hokh j hij)
    refine ⟨sl j, hp j, ρ1.take (hp j).length, S1, hw.1, ⟨?_, hev.os, hev.tape, hev.output, hev.size, hev.keep, hev.imm, fun b hb => hev.own b (hw.2 b hb)⟩, Qdc hws (hoks j hij) hr1, hnext j hij⟩
    obtain ⟨t, ht⟩ := hev.pre
    refine ⟨t.take ((hp j).length - ρ.length), ?_⟩
    rw [ht, List.take_append, Zpz (by rw [hs.len]; exact hlen j hij)]
   | exit n => exact ⟨s1, H1, ρ1, S1, hs1, hev, hr1, hK⟩
   | ret => exact ⟨s1, H1, ρ1, S1, hs1, hev, hr1, hK⟩
   | pan n => exact ⟨s1, H1, ρ1, S1, hs1, hev, hr1, hK⟩
 | cond c x y ihx ihy =>
  intro s H K h0 ρ S w a hs hr
  have h : Qpr c s (fun s => Qjr P x s H K) (fun s => Qjr P y s H K) := h0
  obtain ⟨b, hb, hc⟩ := Qi7 h hr
  refine wp_cond hb ?_
  rcases hc with ⟨rfl, s', hK, hr'⟩ | ⟨rfl, s', hK, hr'⟩
  ·exact ihx s' H K hK ρ S w a hs hr'
  ·exact ihy s' H K hK ρ S w a hs hr'
 | block id b ih =>
  intro s H K h ρ S w a hs hr
  refine wp_block (wp_mono (ih s H (Qgb id K) h ρ S w a hs hr) fun e a' w' hp => ?_)
  obtain ⟨ρ1, S1, s1, H1, ex, hs1, hev, hr1, hd, hex, hK⟩ := hp
  cases ex with
  | normal => cases e <;> first | exact hex.elim | exact ⟨ρ1, S1, s1, H1, .normal, hs1, hev, hr1, hd, trivial, hK⟩
  | ret => cases e <;> first | exact hex.elim | exact ⟨ρ1, S1, s1, H1, .ret, hs1, hev, hr1, hd, trivial, hK⟩
  | pan n => cases e <;> first | exact hex.elim | exact ⟨ρ1, S1, s1, H1, .pan n, hs1, hev, hr1, hd, hex, hK⟩
  | exit n =>
   cases e <;> first | exact hex.elim | skip
   rename_i m
   have hnm : n = m := hex
   subst hnm
   by_cases hid : n = id
   ·subst hid
    simp only [Exit.inBlock, if_true]
    have hK' : K .normal s1 H1 := by simpa [Qgb] using hK
    exact ⟨ρ1, S1, s1, H1, .normal, hs1, hev, hr1, hd, trivial, hK'⟩
   ·simp only [Exit.inBlock, if_neg hid]
    have hbq : Nat.beq n id = false := by cases hq : Nat.beq n id with | false => rfl | true => exact absurd (Nat.eq_of_beq_eq_true hq) hid
    have hK' : K (.exit n) s1 H1 := by simpa [Qgb, hbq] using hK
    exact ⟨ρ1, S1, s1, H1, .exit n, hs1, hev, hr1, hd, rfl, hK'⟩
 | loop b ih =>
  intro s H K h0 ρ S w a hs hr
  have h : LoopN (Qjr P b) s H K := h0
  rcases h with ⟨ι, inv, sl, hp, μ, pad, hpad, hlen, hoks, hokh, ⟨i0, hi0, hst, hsh⟩, hround⟩ | ⟨n, hU⟩ | ⟨ι, inv, sl, hp, μ, pad, hpad, hlen, hoks, hokh, ⟨i0, hi0, hst, hsh⟩, hround⟩
  ·obtain ⟨t0, hs0, hev0⟩ := Sat.pad pad hpad hs
   have hr0 := Qb5 t0 hr
   refine wp_mono (P := P) (c := .loop b) (Q := Post (ρ ++ t0) S (H ++ pad) w a.defers K) ?_ fun e a' w' hp => hp.from hev0
   clear hs hr h0
   have hs := hs0
   have hr := hr0
   clear hs0 hr0
   generalize ρ ++ t0 = ρ at *
   generalize H ++ pad = H at *
   simp only [Qcv, Qc9] at hround
   refine Qcy (fun n a' w' => ∃ i ρ' S', inv i /\ μ i = n /\ Sat ρ' S' (hp i) w' /\ Ev ρ S H w ρ' S' (hp i) w' /\ RelS ρ' (sl i) a'.tmps.toList /\ a'.defers = a.defers) ?_ (μ i0) a w ?_
   ·rintro n a' w' ⟨i, ρ', S', hinv, rfl, hs', hev, hr', hd⟩
    refine wp_mono (ih (sl i) (hp i) _ (hround i hinv) ρ' S' w' a' hs' hr') fun e a2 w2 hq => ?_
    obtain ⟨ρ2, S2, s2, H2, ex, hs2, hev2, hr2, hd2, hex, hK⟩ := hq
    cases ex with
    | normal =>
     cases e <;> first | exact hex.elim | skip
     obtain ⟨j, hij, hj, hws, hwh⟩ := hK
     have hw := hs2.weak hwh (by rw [hlen]; exact hokh j hij)
     refine ⟨μ j, hj, j, ρ2.take (hp j).length, S2, hij, rfl, hw.1, ?_, ?_, hd2.trans hd⟩
     ·have h12 := hev.trans hev2
      refine ⟨?_, h12.os, h12.tape, h12.output, h12.size, h12.keep, h12.imm, fun b hb => h12.own b (hw.2 b hb)⟩
      obtain ⟨t, ht⟩ := h12.pre
      refine ⟨t.take ((hp j).length - ρ.length), ?_⟩
      rw [ht, List.take_append, Zpz (by rw [hs.len, hlen]; omega)]
     ·rw [hlen]; exact Qdc hws (hoks j) hr2
    | exit n => cases e <;> first | exact hex.elim | exact ⟨ρ2, S2, s2, H2, .exit n, hs2, hev.trans hev2, hr2, hd2.trans hd, hex, hK⟩
    | ret => cases e <;> first | exact hex.elim | exact ⟨ρ2, S2, s2, H2, .ret, hs2, hev.trans hev2, hr2, hd2.trans hd, trivial, hK⟩
    | pan n => cases e <;> first | exact hex.elim | exact ⟨ρ2, S2, s2, H2, .pan n, hs2, hev.trans hev2, hr2, hd2.trans hd, hex, hK⟩
   ·have hw := hs.weak hsh (by rw [hlen]; exact hokh i0 hi0)
    have hρ : ρ.take (hp i0).length = ρ := Zpz (by rw [hs.len, hlen]; omega)
    rw [hρ] at hw
    refine ⟨i0, ρ, S, hi0, rfl, hw.1, ⟨⟨[], by simp⟩, rfl, rfl, rfl, Zcz _, fun _ _ _ => rfl, fun b hb => .inl hb, fun b hb => .inl (hw.2 b hb)⟩, ?_, rfl⟩
    have := Qdc hst (hoks i0) hr
    rw [<- hlen i0, hρ] at this
    exact this
  ·refine Qcy (fun n a' w' => ∃ s' H' ρ' S', Qxl (Qjr P b) K n s' H' /\ Sat ρ' S' H' w' /\ Ev ρ S H w ρ' S' H' w' /\ RelS ρ' s' a'.tmps.toList /\ a'.defers = a.defers) ?_ n a w ⟨s, H, ρ, S, hU, hs, Ev.refl _ _ _ _, hr, rfl⟩
   rintro n a' w' ⟨s', H', ρ', S', hU, hs', hev, hr', hd⟩
   cases n with
   | zero => exact hU.elim
   | succ n =>
    refine wp_mono (ih s' H' _ hU ρ' S' w' a' hs' hr') fun e a2 w2 hq => ?_
    obtain ⟨ρ2, S2, s2, H2, ex, hs2, hev2, hr2, hd2, hex, hK⟩ := hq
    cases ex with
    | normal =>
     cases e <;> first | exact hex.elim | skip
     exact ⟨n, Nat.lt_succ_self n, s2, H2, ρ2, S2, hK, hs2, hev.trans hev2, hr2, hd2.trans hd⟩
    | exit n => cases e <;> first | exact hex.elim | exact ⟨ρ2, S2, s2, H2, .exit n, hs2, hev.trans hev2, hr2, hd2.trans hd, hex, hK⟩
    | ret => cases e <;> first | exact hex.elim | exact ⟨ρ2, S2, s2, H2, .ret, hs2, hev.trans hev2, hr2, hd2.trans hd, trivial, hK⟩
    | pan n => cases e <;> first | exact hex.elim | exact ⟨ρ2, S2, s2, H2, .pan n, hs2, hev.trans hev2, hr2, hd2.trans hd, hex, hK⟩
  ·obtain ⟨t0, hs0, hev0⟩ := Sat.pad pad hpad hs
   have hr0 := Qb5 t0 hr
   refine wp_mono (P := P) (c := .loop b) (Q := Post (ρ ++ t0) S (H ++ pad) w a.defers K) ?_ fun e a' w' hp => hp.from hev0
   clear hs hr h0
   have hs := hs0
   have hr := hr0
   clear hs0 hr0
   generalize ρ ++ t0 = ρ at *
   generalize H ++ pad = H at *
   simp only [Qcv, Qc9] at hround
   refine Qcy (fun n a' w' => ∃ i ρ' S', inv i /\ μ i = n /\ Sat ρ' S' (hp i) w' /\ Ev ρ S H w ρ' S' (hp i) w' /\ RelS ρ' (sl i) a'.tmps.toList /\ a'.defers = a.defers) ?_ (μ i0) a w ?_
   ·rintro n a' w' ⟨i, ρ', S', hinv, rfl, hs', hev, hr', hd⟩
    refine wp_mono (ih (sl i) (hp i) _ (hround i hinv) ρ' S' w' a' hs' hr') fun e a2 w2 hq => ?_
    obtain ⟨ρ2, S2, s2, H2, ex, hs2, hev2, hr2, hd2, hex, hK⟩ := hq
    cases ex with
    | normal =>
     cases e <;> first | exact hex.elim | skip
     obtain ⟨j, hij, hj, hws, G, hT, hwh⟩ := hK
     obtain ⟨S3, hs3, hev3⟩ := hT.2 _ _ _ hs2
     have hw := hs3.weak hwh (by rw [hlen]; exact hokh j hij)
     refine ⟨μ j, hj, j, ρ2.take (hp j).length, S3, hij, rfl, hw.1, ?_, ?_, hd2.trans hd⟩
     ·have h12 := (hev.trans hev2).trans hev3
      refine ⟨?_, h12.os, h12.tape, h12.output, h12.size, h12.keep, h12.imm, fun b hb => h12.own b (hw.2 b hb)⟩
      obtain ⟨t, ht⟩ := h12.pre
      refine ⟨t.take ((hp j).length - ρ.length), ?_⟩
      rw [ht, List.take_append, Zpz (by rw [hs.len, hlen]; omega)]
     ·rw [hlen]; exact Qdc hws (hoks j) hr2
    | exit n => cases e <;> first | exact hex.elim | exact ⟨ρ2, S2, s2, H2, .exit n, hs2, hev.trans hev2, hr2, hd2.trans hd, hex, hK⟩
    | ret => cases e <;> first | exact hex.elim | exact ⟨ρ2, S2, s2, H2, .ret, hs2, hev.trans hev2, hr2, hd2.trans hd, trivial, hK⟩
    | pan n => cases e <;> first | exact hex.elim | exact ⟨ρ2, S2, s2, H2, .pan n, hs2, hev.trans hev2, hr2, hd2.trans hd, hex, hK⟩
   ·obtain ⟨G, hT, hsh⟩ := hsh
    obtain ⟨S3, hs3, hev3⟩ := hT.2 _ _ _ hs
    have hw := hs3.weak hsh (by rw [hlen]; exact hokh i0 hi0)
    have hρ : ρ.take (hp i0).length = ρ := Zpz (by rw [hs.len, hlen]; omega)
    rw [hρ] at hw
    refine ⟨i0, ρ, S3, hi0, rfl, hw.1, ⟨⟨[], by simp⟩, hev3.os, hev3.tape, hev3.output, hev3.size, hev3.keep, hev3.imm, fun b hb => hev3.own b (hw.2 b hb)⟩, ?_, rfl⟩
    have := Qdc hst (hoks i0) hr
    rw [<- hlen i0, hρ] at this
    exact this
theorem Qm1 {P : Program} (hm : P.follows .mixedOrders = true) {f : FuncId} {fn : Func} {c : Code} (hf : P.funcs[f]? = some fn) (hn : (fn.name == "runtime.NumGoroutine") = false) (hb : fn.body = some c)
  {args : List AV} (hl : Nat.ble args.length fn.ntmps = true) {H : List Ent} {K : Out -> List Ent -> Prop} (h : Qhq fn.ntmps args fun s => Qjr P c s H (endK P fn.results.toList K)) : SpecH P f args H K := by
 refine ⟨⟨fn, hf, hn, by rw [hb]; rfl⟩, fun ρ S w vs hs hr => ?_⟩
 have hvl := Qit hr
 obtain ⟨s0, h, hs0⟩ := Qgo h (Zaz hl)
 have hinit : RelS ρ s0 (vs.toArray ++ Array.replicate (fn.ntmps - vs.toArray.size) undef).toList := by
  have := hs0 ρ vs hr
  simpa [hvl] using this
 refine calls_of_wp hf hb (wp_mono (Qqw hm c _ H _ h ρ S w ⟨_, []⟩ hs hinit) ?_)
 ·intro e a w' hp
  obtain ⟨ρ1, S1, s1, H1, ex, hs1, hev, hr1, hd, hex, hK⟩ := hp
  have fin : RelS ρ1 s1 a.tmps.toList -> ∀ {K' : Out -> Prop}, resK P fn.results.toList s1 H1 K' -> (∀ out, K' out -> K out H1) -> ∃ v, (results fn a.tmps).run P w' = .ok v w' /\
    ∃ ρ' S' H' out, Sat ρ' S' H' w' /\ Ev ρ S H w ρ' S' H' w' /\ Qth ρ' out (.returned v) /\ K out H' := fun hr2 {_} hK1 hK2 => by
   obtain ⟨out, hK3, hres⟩ := Qix hK1
   obtain ⟨v, hrun, hv⟩ := hres ρ1 S1 w' a.tmps hs1 hr2
   exact ⟨v, hrun, ρ1, S1, H1, out, hs1, hev, hv, hK2 out hK3⟩
  cases ex with
  | normal =>
   cases e <;> first | exact hex.elim | skip
   obtain ⟨v, hrun, hR⟩ := fin hr1 (K' := fun out => K out H1) hK fun _ h => h
   exact ⟨hd, v, hrun, hR⟩
  | ret =>
   cases e <;> first | exact hex.elim | skip
   obtain ⟨v, hrun, hR⟩ := fin hr1 (K' := fun out => K out H1) hK fun _ h => h
   exact ⟨hd, v, hrun, hR⟩
  | exit n => exact hK.elim
  | pan ch =>
   cases e <;> first | exact hex.elim | skip
   have : ch = _ := hex
   subst this
   exact ⟨hd, ρ1, S1, H1, .pan ch, hs1, hev, rfl, hK⟩
end Go.AX
namespace Go.Proofs.YtgogonnnojcioaaGreatDoor
open Go.AX Go.RowKit Go.Core Go.Marshal
set_option maxRecDepth 20000
theorem QBi {P : Program} (hm : P.follows .mixedOrders = true) {f : FuncId} {fn : Func} {c : Code} (hf : P.funcs[f]? = some fn) (hn : (fn.name == "runtime.NumGoroutine") = false) (hb : fn.body = some c)
  {xs : List Value} (hl : Nat.ble (pvs xs).length fn.ntmps = true) {r : Value} (h : Qhq fn.ntmps (pvs xs) fun s => Qjr P c s [] (endK P fn.results.toList fun out _ => out = .val (.c (.v r)))) (H : List Ent) : SpecH P f (pvs xs) H (Ret r H) :=
 ((Qm1 hm hf hn hb hl h).mono fun out _ ho => ⟨r, ho, rfl⟩ : SpecH P f (pvs xs) [] fun out _ => ∃ x, out = .val (.c (.v x)) /\ x = r).frame H |>.mono fun _ _ ⟨_, ho, hx, hH⟩ => ⟨by rw [ho, hx], hH⟩
theorem QAt (x : UInt8) (hx : 128 <= x.toNat) : ∃ b0 b1 : UInt8, Utf8.encode (x.toNat : Int) = bs [b0, b1] /\ 128 <= b1.toNat := by
 have h : ∀ n : Fin 256, 128 <= n.val -> (Utf8.encode (n.val : Int)).data.toList = [UInt8.ofNat (192 + n.val / 64), UInt8.ofNat (128 + n.val % 64)] /\ 128 <= (UInt8.ofNat (128 + n.val % 64)).toNat := by decide +kernel
 have h2 := h ⟨x.toNat, x.toNat_lt⟩ hx
 exact ⟨_, _, by rw [<- QBr (Utf8.encode (x.toNat : Int)), h2.1], h2.2⟩
theorem Qw0 (l : List UInt8) (c : UInt8) : Lib.indexByte l c < 0 ↔ l.contains c = false := by
 induction l with
 | nil => simp [Lib.indexByte]
 | cons b l ih =>
  have hge := Lib.indexByte_ge l c
  unfold Lib.indexByte
  cases hb : b == c with
  | true =>
   have hbc : b = c := by simpa using hb
   simp [hbc]
  | false =>
   have hbc : (c == b) = false := by
    have : ¬ b = c := by simpa using hb
    simpa using fun h => this h.symm
   rw [List.contains_cons, hbc, Bool.false_or, <- ih]
   simp only [Bool.false_eq_true, if_false]
   split
   ·rename_i h; have : Lib.indexByte l c = -1 := by simpa using h
    omega
   ·rename_i h; have : ¬ Lib.indexByte l c = -1 := by simpa using h
    omega
theorem Qmh (s : List UInt8) (c : UInt8) (h : c ∉ s) : Lib.indexByte s c = -1 := by
 induction s with
 | nil => rfl
 | cons b l ih =>
  have hb : (b == c) = false := by
   rw [beq_eq_false_iff_ne]
   intro e
   exact h (by simp [e])
  unfold Lib.indexByte
  rw [hb, ih (fun h2 => h (by simp [h2]))]
  rfl
theorem Qp3 (c0 c1 : UInt8) (s : List UInt8) (hs : ∀ c ∈ c0 :: c1 :: s, c.toNat < 128) (hl : s.length <= 1000) (x : UInt8) (hx : 128 <= x.toNat) : ∀ H, SpecH Tryz.prog 103 (pvs [.string (bs (c0 :: c1 :: s)), .int .i32 (x.toNat : Int)]) H (Ret (.int .i64 (-1)) H) := by
 refine QBi hm Tryz.func103 (by kernel_rfl) rfl rfl ?_
 have hx2 := x.toNat_lt
 have hvr : ∀ H, SpecH Tryz.prog 127 (pvs [.int .i32 (x.toNat : Int)]) H (Ret (.bool true) H) := fun H =>
  SpecH.rawP (R := fun r => r = .bool true) (Qhb Tryz.func127 (by kernel_rfl) rfl) (fun w _ => (Tryz.utf8_ValidRune (x.toNat : Int) w).mono fun e w' ⟨he, hw⟩ => by
   have e1 : Lib.validRune (x.toNat : Int) = true := by unfold Lib.validRune; simp; omega
   rw [e1] at he
   subst hw
   exact ⟨_, he, rfl, Below.refl _ _⟩) fun r hr => by subst hr; exact ⟨rfl, rfl⟩
 refine wXS ?_
 refine Qab (fun h => absurd h (by omega)) (fun _ => ?_)
 refine wXS ?_
 refine Qa0 (fun h => absurd h (by omega)) (fun _ => ?_)
 refine wXS ?_
 refine Qao (hvr _) ?_
 refine wXS ?_
 obtain ⟨b0, b1, he, hb1⟩ := QAt x hx
 rw [he, show IntKind.i64.wrap (((bs [b0, b1]).size : Nat) - 1) = 1 from rfl]
 refine LoopN.unroll 1 ?_
 refine wXS ?_
 have hsz : (bs (c0 :: c1 :: s)).size = s.length + 2 := Qal _
 refine Qab (fun _ => ?_) (fun h => absurd (by rw [hsz]; show (1 : Int) < _; omega) h)
 refine wXS ?_
 refine Nd.mk ⟨by decide, by show (1 : Int) < 2; decide⟩ ?_
 refine wXS ?_
 rw [show Qcx (bs (c0 :: c1 :: s)) (Int.toNat 1) = (c1.toNat : Int) from rfl, show Qcx (bs [b0, b1]) (Int.toNat 1) = (b1.toNat : Int) from rfl]
 have hc1 : c1.toNat < 128 := hs c1 (by simp)
 refine Qbb (fun _ => ?_) (fun h => absurd h (by omega))
 refine wXS ?_
 refine ReadW.str_l rfl (by kernel_rfl) rfl rfl ⟨by decide, by rw [hsz, show IntKind.i64.wrap (1 + 1) = 2 from rfl]; omega⟩ ?_
 rw [show (bs (c0 :: c1 :: s)).extract (Int.toNat (IntKind.i64.wrap (1 + 1))) (bs (c0 :: c1 :: s)).size = bs s by rw [Qal]; exact Qnz (c0 :: c1 :: s) 2]
 refine wXS ?_
 refine Nd.mk ⟨by decide, by show (1 : Int) < 2; decide⟩ ?_
 refine wXS ?_
 refine Qfd (Qe3 s b1 _) ?_
 rw [Qmh s b1 (fun h => by have := hs b1 (by simp [h]); omega)]
 exact wZS
theorem Qlw (s : List UInt8) (x : UInt8) (hx : x.toNat < 128) : ∀ H, SpecH Tryz.prog 88 (pvs [.string (bs s), .int .i32 (x.toNat : Int)]) H (Ret (.bool (decide (0 <= Lib.indexByte s x))) H) := fun H =>
 SpecH.rawP (R := fun r => r = .bool (decide (0 <= Lib.indexByte s x))) (Qhb Tryz.func88 (by kernel_rfl) rfl) (fun w _ => (Tryz.strings_ContainsRune_ascii (bs s) (x.toNat : Int) w (by omega) (by omega)).mono fun e w' ⟨he, hw⟩ => by
  subst hw
  rw [Qbx, Zdz, show x.toNat.toUInt8 = x by simp] at he
  exact ⟨_, he, rfl, Below.refl _ _⟩) fun r hr => by subst hr; exact ⟨rfl, rfl⟩
theorem Qlx (c0 c1 : UInt8) (s : List UInt8) (hs : ∀ c ∈ c0 :: c1 :: s, c.toNat < 128) (hl : s.length <= 1000) (x : UInt8) (hx : 128 <= x.toNat) : ∀ H, SpecH Tryz.prog 88 (pvs [.string (bs (c0 :: c1 :: s)), .int .i32 (x.toNat : Int)]) H (Ret (.bool false) H) := by
 refine Qd1 hm Tryz.func88 (by kernel_rfl) rfl rfl ?_
 refine wX ?_
 refine Qao (Qp3 c0 c1 s hs hl x hx _) ?_
 refine wX ?_
 rfl
theorem Qhf (c0 c1 : UInt8) (s : List UInt8) (hs : ∀ c ∈ c0 :: c1 :: s, c.toNat < 128) (hl : s.length <= 1000) (x : UInt8) : ∀ H, SpecH Tryz.prog 88 (pvs [.string (bs (c0 :: c1 :: s)), .int .i32 (x.toNat : Int)]) H (Ret (.bool (decide (x ∈ c0 :: c1 :: s))) H) := by
 intro H
 by_cases hx : x.toNat < 128
 ·have h := Qlw (c0 :: c1 :: s) x hx H
  have e : decide (0 <= Lib.indexByte (c0 :: c1 :: s) x) = decide (x ∈ c0 :: c1 :: s) := by
   by_cases hm2 : x ∈ c0 :: c1 :: s
   ·rw [decide_eq_true hm2]
    have : ¬ Lib.indexByte (c0 :: c1 :: s) x < 0 := by
     rw [Qw0, Zvz.2 hm2]
     exact fun h => by cases h
    simp; omega
   ·rw [decide_eq_false hm2, Qmh _ _ hm2]
    rfl
  rw [<- e]
  exact h
 ·have h := Qlx c0 c1 s hs hl x (by omega) H
  rw [decide_eq_false (fun hm2 => hx (hs x hm2))]
  exact h
abbrev nilP : Qaj := ⟨nilC, none, 0, none, 0⟩
theorem Qqs : ∀ {m : List Qaj} {j : Nat} (q : Qaj), j < m.length -> (grC m).take (j * 5) ++ Qa2 q ++ (grC m).drop (j * 5 + 5) = grC (m.set j q)
 | p :: m, 0, q, _ => by simp [grC, Qa2]
 | p :: m, j + 1, q, h => by
  have ih := Qqs (m := m) (j := j) q (by simpa using h)
  have e : grC (p :: m) = Qa2 p ++ grC m := by simp [grC]
  have l5 : (Qa2 p).length = 5 := rfl
  rw [List.set_cons_succ, show grC (p :: m.set j q) = Qa2 p ++ grC (m.set j q) by simp [grC], <- ih, e, show (j + 1) * 5 = (Qa2 p).length + j * 5 by rw [l5]; omega, List.take_length_add_append, show (Qa2 p).length + j * 5 + 5 = (Qa2 p).length + (j * 5 + 5) by omega, List.drop_length_add_append]
  simp
theorem Qge {H : List Ent} {rb : Nat} {st : PS} {p : RdP} (hl : 5 <= H.length) (h0 : H[0]? = some (.app 84 5 (rdC st p) (some ⟨rb, 0, none⟩) 1 1)) (h1 : H[1]? = some (.app 57 5 (grC p.m) p.ga p.m.length p.gc)) (h3 : H[3]? = some (.app 3 1 (iC st.cells) p.ca st.cells.length p.cc)) (h4 : H[4]? = some (.app 9 1 (strC st.ss) p.sa st.ss.length p.sc)) (hΓ : ∀ w, Qax (Qh3 H (rdE rb st p)) w -> ∀ q ∈ p.m, Qbn q w) : Qsj H (rdE rb st p) := by
 refine ⟨hl, fun i e he => ?_⟩
 rcases i with _ | _ | _ | _ | _ | i
 ·obtain rfl := Zzz he
  exact .inr (.inl ⟨_, _, _, _, _, _, rfl, h0⟩)
 ·obtain rfl := Zzz he
  exact .inr (.inl ⟨_, _, _, _, _, _, rfl, h1⟩)
 ·exact .inr (.inr ⟨_, (Zzz he).symm, hΓ⟩)
 ·obtain rfl := Zzz he
  exact .inr (.inl ⟨_, _, _, _, _, _, rfl, h3⟩)
 ·obtain rfl := Zzz he
  exact .inr (.inl ⟨_, _, _, _, _, _, rfl, h4⟩)
 ·cases he
theorem Qlp (n : Nat) (rb : Nat) (st : PS) (p : RdP) (ok : RdOk st p) (he : st.e ≠ 0) : SpecH Tryz.prog 64 [.c (.v (.pointer (some ⟨rb, 0, none⟩)))] (rdE rb st p) (RetG (ι := RdP) (fun p' => RdOk (Qav n st).2 p') (fun _ => .int .i64 (Qav n st).1) fun p' => rdE rb (Qav n st).2 p') := by
 have hcm : Qav n st = (0, st) := by
  cases n with
  | zero => show (0, Qam st 99) = _; rw [Qel he]
  | succ n => exact Qlq n he
 rw [hcm]
 refine ownC hm Tryz.func64 (by kernel_rfl) rfl rfl (fun _ _ => Qks _ _ _) (fun _ _ => Zcz _) ?_
 have hne := Qjh rb st p
 rw [Qfj he] at hne
 refine wX ?_
 refine Qai (hne) [0, 1, 2, 3, 4] rfl ⟨rfl, rfl, rfl, rfl, rfl, trivial⟩ rfl fun _ _ => ?_
 refine wX ?_
 refine LdN.one (a := some ⟨rb, 0, none⟩) (q := 4) (.int .i64 st.e) rfl (fun w hw => hw.1) rfl ?_
 refine wX ?_
 refine Qbb (fun _ => ?_) (fun h => absurd h he)
 refine wX ?_
 exact ⟨p, ok, rfl, Qag _⟩
theorem Qvt (n : Nat) (hc : Qtl n) : Qtl (n + 1) := by
  intro rb st p ok bd hn
  by_cases he : st.e ≠ 0
  · exact Qlp (n + 1) rb st p ok he
  have hn : st.s.length < n + 1 := hn.resolve_right he
  have hcm : Qav (n + 1) st = (if (Qad st).2.e ≠ 0 then (0, (Qad st).2) else if (Qad st).1 = 64 then refM (Qad st).2 else if 500 <= (Qad st).2.g.length \/ (Qad st).1 ∉ Qbl then (0, Qam (Qad st).2 4) else (((Qad st).2.g.length : Int), { (Qbo (Qav n) (Qad st).1 (Qcg (Qad st).1 (Qad st).2)).2 with g := (Qbo (Qav n) (Qad st).1 (Qcg (Qad st).1 (Qad st).2)).2.g.set (Qad st).2.g.length (Qbo (Qav n) (Qad st).1 (Qcg (Qad st).1 (Qad st).2)).1 })) := rfl
  generalize Qav (n + 1) st = R at hcm ⊢
  refine SpecH.sealP ?_
  refine Qas hm Tryz.func64 (by kernel_rfl) rfl rfl ?_
  have hne := Qjh rb st p
  have b1 := bd.le (Qdd st)
  have ok1 := ok.same (Qc6 st)
  have hlt := Qk2 (st := st)
  generalize Qad st = q at hne hcm b1 ok1 hlt ⊢
  obtain ⟨x, s1⟩ := q
  simp only at hne hcm b1 ok1 hlt
  refine wX ?_
  refine Qai (hne) [0, 1, 2, 3, 4] rfl ⟨rfl, rfl, rfl, rfl, rfl, trivial⟩ rfl fun _ _ => ?_
  refine wX ?_
  refine LdN.one (a := some ⟨rb, 0, none⟩) (q := 4) (.int .i64 s1.e) rfl (fun w hw => hw.1) rfl ?_
  refine wX ?_
  refine Qbb (fun h1 => ?_) (fun h1 => ?_)
  · rw [if_pos h1] at hcm
    subst hcm
    refine wX ?_
    refine ⟨rdE rb (s1) (p), Zaz rfl, Qge (Zaz rfl) rfl rfl rfl rfl (fun w hw => hw.1), ⟨_, rfl⟩, ⟨p, ok1, rfl, rfl⟩⟩
  rw [if_neg (fun h => h h1)] at hcm
  obtain ⟨hl1, _⟩ := hlt (.inl h1)
  have hn1 : s1.s.length < n \/ s1.e ≠ 0 := .inl (by omega)
  refine wX ?_
  refine Qa0 (fun h64 => ?_) (fun h64 => ?_)
  · obtain rfl : x = 64 := UInt8.toNat_inj.1 (by have : x.toNat = 64 := by omega
                                                 rw [this]; rfl)
    rw [if_pos rfl] at hcm
    have hnum := Qf0 rb s1 p maxN (by decide)
    have ok2 := ok1.same (Qb7 maxN s1)
    have hmo := Qea maxN s1
    unfold refM at hcm
    simp only at hcm
    generalize numM maxN s1 = q at hnum ok2 hmo hcm ⊢
    obtain ⟨k, s2⟩ := q
    simp only at hnum ok2 hmo hcm
    have hmo : k <= 1000000000000000 := hmo
    refine wX ?_
    refine Qai (hnum) [0, 1, 2, 3, 4] rfl ⟨rfl, rfl, rfl, rfl, rfl, trivial⟩ rfl fun _ _ => ?_
    refine wX ?_
    refine LdN.one (a := some ⟨rb, 0, none⟩) (q := 4) (.int .i64 s2.e) rfl (fun w hw => hw.1) rfl ?_
    refine wX ?_
    by_cases he2 : s2.e = 0
    · rw [show (s2.e == 0) = true by rw [he2]; rfl]
      rw [if_neg (fun h => h he2)] at hcm
      refine wX ?_
      refine LdN.one (a := some ⟨rb, 0, none⟩) (q := 2) (.slice p.ca s2.cells.length p.cc) rfl (fun w hw => hw.1) rfl ?_
      refine wX ?_
      refine Qab (fun hk => ?_) (fun hk => ?_)
      · rw [if_pos (by omega)] at hcm
        subst hcm
        refine wX ?_
        refine Qai (Qdn rb s2 p 4) [0, 1, 2, 3, 4] rfl ⟨rfl, rfl, rfl, rfl, rfl, trivial⟩ rfl fun _ _ => ?_
        have he4 : (Qam s2 4).e = 4 := Qcq he2 4
        refine wX ?_
        refine LdN.one (a := some ⟨rb, 0, none⟩) (q := 4) (.int .i64 (Qam s2 4).e) rfl (fun w hw => hw.1) rfl ?_
        rw [he4]
        refine wX ?_
        refine ⟨rdE rb (Qam s2 4) (p), Zaz rfl, Qge (Zaz rfl) rfl rfl rfl rfl (fun w hw => hw.1), ⟨_, rfl⟩, ⟨p, ok2.same (Qbj s2 4), rfl, rfl⟩⟩
      · have hkl : k < s2.cells.length := by omega
        rw [if_neg (by omega)] at hcm
        subst hcm
        have hsa : p.ca.isSome = true := by
          cases h : p.ca with
          | none =>
            rw [ok2.ca h] at hkl
            exact absurd hkl (Nat.not_lt_zero _)
          | some b => rfl
        have hget : s2.cells[k]? = some (s2.cells.getD k 0) := by rw [Zlz, Zbz hkl]; rfl
        refine wX ?_
        refine LdN.one (a := some ⟨rb, 0, none⟩) (q := 4) (.int .i64 s2.e) rfl (fun w hw => hw.1) rfl ?_
        rw [he2]
        refine wX ?_
        refine LdN.one (a := some ⟨rb, 0, none⟩) (q := 2) (.slice p.ca s2.cells.length p.cc) rfl (fun w hw => hw.1) rfl ?_
        refine wX ?_
        refine Nd.mk ⟨hsa, by omega, by omega⟩ ?_
        refine wX ?_
        refine LdN.one (.int .i64 (s2.cells.getD k 0)) rfl (fun w hw => hw.2.2.2.1) (by show (iC s2.cells)[Int.toNat _ * 1]? = _; rw [Zdz, Nat.mul_one]; exact Qcb hget) ?_
        refine wX ?_
        refine ⟨rdE rb (s2) (p), Zaz rfl, Qge (Zaz rfl) rfl rfl rfl rfl (fun w hw => hw.1), ⟨_, rfl⟩, ⟨p, ok2, rfl, rfl⟩⟩
    · rw [show (s2.e == 0) = false by simpa using he2]
      rw [if_pos he2] at hcm
      subst hcm
      refine wX ?_
      refine LdN.one (a := some ⟨rb, 0, none⟩) (q := 4) (.int .i64 s2.e) rfl (fun w hw => hw.1) rfl ?_
      refine wX ?_
      refine Qbb (fun _ => ?_) (fun h => absurd h he2)
      refine wX ?_
      refine ⟨rdE rb (s2) (p), Zaz rfl, Qge (Zaz rfl) rfl rfl rfl rfl (fun w hw => hw.1), ⟨_, rfl⟩, ⟨p, ok2, rfl, rfl⟩⟩
  have hx64 : x ≠ 64 := fun h => h64 (by rw [h]; rfl)
  rw [if_neg hx64] at hcm
  have hml : p.m.length = s1.g.length := by rw [<- ok1.g, List.length_map]
  refine wX ?_
  refine LdN.one (a := some ⟨rb, 0, none⟩) (q := 1) (.slice p.ga p.m.length p.gc) rfl (fun w hw => hw.1) rfl ?_
  have hfail : (500 <= s1.g.length \/ x ∉ Qbl) -> R = (0, Qam s1 4) := fun h => by rw [hcm, if_pos h]
  have hxl := x.toNat_lt
  have hw32 : IntKind.i32.wrap (x.toNat : Int) = (x.toNat : Int) := by simp [IntKind.wrap, IntKind.bits, IntKind.signed]; omega
  have hb10 : ∀ c ∈ [(48 : UInt8), 84, 70, 105, 34, 58, 59, 91, 123, 111], c.toNat < 128 := by decide
  have hb4 : ∀ c ∈ [(34 : UInt8), 91, 123, 111], c.toNat < 128 := by decide
  refine wX ?_
  by_cases h5 : 500 <= s1.g.length
  · rw [show decide ((p.m.length : Int) ≥ 500) = true by simp; omega]
    have hcm := hfail (.inl h5)
    subst hcm
    refine wX ?_
    refine Qai (Qdn rb s1 p 4) [0, 1, 2, 3, 4] rfl ⟨rfl, rfl, rfl, rfl, rfl, trivial⟩ rfl fun _ _ => ?_
    refine wX ?_
    refine ⟨rdE rb (Qam s1 4) (p), Zaz rfl, Qge (Zaz rfl) rfl rfl rfl rfl (fun w hw => hw.1), ⟨_, rfl⟩, ⟨p, ok1.same (Qbj s1 4), rfl, rfl⟩⟩
  rw [show decide ((p.m.length : Int) ≥ 500) = false by simp; omega]
  refine wX ?_
  rw [hw32]
  refine Qao (Qhf 48 84 [70, 105, 34, 58, 59, 91, 123, 111] hb10 (by decide) x _) ?_
  by_cases hx : x ∈ Qbl
  · rw [show decide (x ∈ [(48 : UInt8), 84, 70, 105, 34, 58, 59, 91, 123, 111]) = true from decide_eq_true hx]
    rw [if_neg (fun h => h.elim h5 (fun h => h hx))] at hcm
    have hfe : (fun w => ∀ q ∈ p.m, Qbn q w) = (fun w => ∀ q ∈ p.m ++ [nilP], Qbn q w) := by
      funext w
      refine propext ⟨fun h q hq => ?_, fun h q hq => h q (List.mem_append_left _ hq)⟩
      rcases Zmz.1 hq with hq | hq
      · exact h q hq
      · obtain rfl := Zgz.1 hq
        exact ⟨Qet w, Qet w⟩
    have hgl := b1.g
    have hcl := b1.cl
    have hle := Qr5 (Qdo n) x (Qcg x s1)
    have hol : (Qcg x s1).g.length = s1.g.length + 1 := by unfold Qcg; simp
    have hogl := hle.g
    rw [hol] at hogl
    have b2 : Bd (Qcg x s1) := ⟨by rw [hol]; omega, by
      rw [hol]
      show (if x ∈ Qi1 then s1.cells ++ [(s1.g.length : Int)] else s1.cells).length <= _
      split
      · simp; omega
      · omega, b1.pot⟩
    have hn2 : (Qcg x s1).s.length < n \/ (Qcg x s1).e ≠ 0 := hn1
    have hml2 : p.m.length + 1 = (p.m ++ [nilP]).length := by simp
    refine wX ?_
    refine LdN.one (a := some ⟨rb, 0, none⟩) (q := 1) (.slice p.ga p.m.length p.gc) rfl (fun w hw => hw.1) rfl ?_
    refine wX ?_
    refine AppN.grow 1 (grC p.m) (Qa2 nilP) rfl rfl ⟨Zcz 1, ⟨by show (p.m.length + 1) * 80 <= _; omega, by omega⟩, by decide⟩ fun gb gc' g1 g2 => ?_
    refine wX ?_
    rw [<- Qf1, hml2, hfe]
    refine EffW.appTo (i := 0) (q := 1) (ys := [_]) (rdC { s1 with g := s1.g ++ [nilC] } { p with m := p.m ++ [nilP], ga := some ⟨gb, 0, none⟩, gc := gc' }) 5 rfl rfl rfl rfl rfl rfl rfl (Zaz rfl) rfl rfl ?_
    refine wX ?_
    rw [hw32]
    refine Qao (Qhf 34 91 [123, 111] hb4 (by decide) x _) ?_
    by_cases hnm : x ∈ Qi1
    · rw [show decide (x ∈ [(34 : UInt8), 91, 123, 111]) = true from decide_eq_true hnm]
      have ho : Qcg x s1 = { s1 with g := s1.g ++ [nilC], cells := s1.cells ++ [(s1.g.length : Int)] } := by unfold Qcg; rw [if_pos hnm]
      refine wX ?_
      refine LdN.one (a := some ⟨rb, 0, none⟩) (q := 2) (.slice p.ca s1.cells.length p.cc) rfl (fun w hw => hw.1) rfl ?_
      refine wX ?_
      refine Nd.mk ⟨Zcz 1, rfl, rfl⟩ ?_
      (conv => whnf)
      refine AppN.grow 3 (iC s1.cells) [.int .i64 (p.m.length : Int)] rfl rfl ⟨Zcz 1, ⟨by show (s1.cells.length + 1) * 8 <= _; omega, by omega⟩, by decide⟩ fun cb cc' g3 g4 => ?_
      refine wX ?_
      have e1 : iC s1.cells ++ [.int .i64 (p.m.length : Int)] = iC (s1.cells ++ [(s1.g.length : Int)]) := by rw [hml]; simp [iC]
      have e2 : s1.cells.length + 1 = (s1.cells ++ [(s1.g.length : Int)]).length := by simp
      rw [e1, e2]
      refine EffW.appTo (i := 0) (q := 2) (ys := [_]) (rdC { s1 with g := s1.g ++ [nilC], cells := s1.cells ++ [(s1.g.length : Int)] } { p with m := p.m ++ [nilP], ga := some ⟨gb, 0, none⟩, gc := gc', ca := some ⟨cb, 0, none⟩, cc := cc' }) 5 rfl rfl rfl rfl rfl rfl rfl (Zaz rfl) rfl rfl ?_
      have ok2 : RdOk { s1 with g := s1.g ++ [nilC], cells := s1.cells ++ [(s1.g.length : Int)] } { p with m := p.m ++ [nilP], ga := some ⟨gb, 0, none⟩, gc := gc', ca := some ⟨cb, 0, none⟩, cc := cc' } :=
        ⟨by show (p.m ++ [nilP]).map (·.c) = s1.g ++ [nilC]; rw [List.map_append, ok1.g]; rfl, fun y hy => (Zmz.1 hy).elim (ok1.cell y) (fun h => by obtain rfl := Zgz.1 h; exact Qcn rfl rfl (Zkz _)), (fun h => by cases h), (fun h => by cases h), ok1.sa, ok1.sw, .inr ⟨gb, rfl⟩⟩
      rw [ho] at hcm hle hogl b2 hn2
      have hin := Qr4 n hc rb ({ s1 with g := s1.g ++ [nilC], cells := s1.cells ++ [(s1.g.length : Int)] }) ({ p with m := p.m ++ [nilP], ga := some ⟨gb, 0, none⟩, gc := gc', ca := some ⟨cb, 0, none⟩, cc := cc' }) ok2 b2 hn2 x hx
      generalize Qbo (Qav n) x ({ s1 with g := s1.g ++ [nilC], cells := s1.cells ++ [(s1.g.length : Int)] }) = r at hcm hle hogl hin ⊢
      obtain ⟨c, s3⟩ := r
      simp only at hcm hle hogl hin
      refine wX ?_
      refine Qai hin [0, 1, 2, 3, 4] rfl ⟨rfl, rfl, rfl, rfl, rfl, trivial⟩ rfl fun q hq => ?_
      obtain ⟨⟨qm, qga, qgc, qca, qcc, qsa, qsc⟩, na, nc, ia, ic⟩ := q
      obtain ⟨hq1, hq2⟩ := hq
      simp only at hq1 hq2
      have hqm : qm.length = s3.g.length := by
        have := hq1.g
        rw [<- this, List.length_map]
      have hat : s1.g.length < qm.length := by rw [hqm]; omega
      obtain ⟨qb, hqb⟩ : ∃ b : Nat, qga = some ⟨b, 0, none⟩ := hq1.gx.resolve_left fun h => by
        have h9 : qm = [] := hq1.ga h
        rw [h9] at hat
        exact absurd hat (Nat.not_lt_zero _)
      subst hqb
      subst hcm
      rw [hml]
      refine wX ?_
      refine DrawN.planQ [0, 4] [1, 2, 3, 5, 6] [(7, 0)] (by decide +kernel) ?_
      refine wX ?_
      refine LdN.one (a := some ⟨rb, 0, none⟩) (q := 1) (.slice (some ⟨qb, 0, none⟩) qm.length qgc) rfl (fun w hw => hw.1) rfl ?_
      refine wX ?_
      refine Nd.mk ⟨rfl, by omega, by omega⟩ ?_
      refine wX ?_
      refine EffW.appTo (i := 1) (q := s1.g.length * 5) (ys := Qa2 ⟨c, na, nc, ia, ic⟩) (grC (qm.set s1.g.length ⟨c, na, nc, ia, ic⟩)) 5 rfl (Qm8 rfl (by show (s1.g.length : Int).toNat * 5 = _; rw [Zdz])) rfl rfl rfl rfl rfl (by show s1.g.length * 5 + 5 <= qm.length * 5; omega) (Qqs _ hat) rfl ?_
      refine wX ?_
      have hrc : rdC { s3 with g := s3.g.set s1.g.length c } ⟨qm.set s1.g.length ⟨c, na, nc, ia, ic⟩, some ⟨qb, 0, none⟩, qgc, qca, qcc, qsa, qsc⟩ = rdC s3 ⟨qm, some ⟨qb, 0, none⟩, qgc, qca, qcc, qsa, qsc⟩ := by simp [rdC]
      refine ⟨rdE rb { s3 with g := s3.g.set s1.g.length c } ⟨qm.set s1.g.length ⟨c, na, nc, ia, ic⟩, some ⟨qb, 0, none⟩, qgc, qca, qcc, qsa, qsc⟩, Zaz rfl, Qge (Zaz rfl) (by rw [hrc]; rfl) (by rw [List.length_set]; rfl) rfl rfl (fun w hw y hy => ?_), ⟨_, rfl⟩, ⟨_, ?_, rfl, rfl⟩⟩
      · rcases List.mem_or_eq_of_mem_set hy with h | h
        · exact hw.1 y h
        · subst h
          exact ⟨hw.2.1, hw.2.2.1⟩
      · exact ⟨by show (qm.set _ _).map (·.c) = s3.g.set _ _; rw [List.map_set]; exact congrArg (fun l => List.set l s1.g.length c) hq1.g, fun y hy => (List.mem_or_eq_of_mem_set hy).elim (hq1.cell y) (fun h => by subst h; exact hq2), (fun h => by cases h), hq1.ca, hq1.sa, hq1.sw, .inr ⟨qb, rfl⟩⟩
    · rw [show decide (x ∈ [(34 : UInt8), 91, 123, 111]) = false from decide_eq_false hnm]
      have ho : Qcg x s1 = { s1 with g := s1.g ++ [nilC] } := by unfold Qcg; rw [if_neg hnm]
      have ok2 : RdOk { s1 with g := s1.g ++ [nilC] } { p with m := p.m ++ [nilP], ga := some ⟨gb, 0, none⟩, gc := gc' } :=
        ⟨by show (p.m ++ [nilP]).map (·.c) = s1.g ++ [nilC]; rw [List.map_append, ok1.g]; rfl, fun y hy => (Zmz.1 hy).elim (ok1.cell y) (fun h => by obtain rfl := Zgz.1 h; exact Qcn rfl rfl (Zkz _)), (fun h => by cases h), ok1.ca, ok1.sa, ok1.sw, .inr ⟨gb, rfl⟩⟩
      rw [ho] at hcm hle hogl b2 hn2
      have hin := Qr4 n hc rb ({ s1 with g := s1.g ++ [nilC] }) ({ p with m := p.m ++ [nilP], ga := some ⟨gb, 0, none⟩, gc := gc' }) ok2 b2 hn2 x hx
      generalize Qbo (Qav n) x ({ s1 with g := s1.g ++ [nilC] }) = r at hcm hle hogl hin ⊢
      obtain ⟨c, s3⟩ := r
      simp only at hcm hle hogl hin
      refine wX ?_
      refine Qai hin [0, 1, 2, 3, 4] rfl ⟨rfl, rfl, rfl, rfl, rfl, trivial⟩ rfl fun q hq => ?_
      obtain ⟨⟨qm, qga, qgc, qca, qcc, qsa, qsc⟩, na, nc, ia, ic⟩ := q
      obtain ⟨hq1, hq2⟩ := hq
      simp only at hq1 hq2
      have hqm : qm.length = s3.g.length := by
        have := hq1.g
        rw [<- this, List.length_map]
      have hat : s1.g.length < qm.length := by rw [hqm]; omega
      obtain ⟨qb, hqb⟩ : ∃ b : Nat, qga = some ⟨b, 0, none⟩ := hq1.gx.resolve_left fun h => by
        have h9 : qm = [] := hq1.ga h
        rw [h9] at hat
        exact absurd hat (Nat.not_lt_zero _)
      subst hqb
      subst hcm
      rw [hml]
      refine wX ?_
      refine DrawN.planQ [0, 4] [1, 2, 3, 5, 6] [(7, 0)] (by decide +kernel) ?_
      refine wX ?_
      refine LdN.one (a := some ⟨rb, 0, none⟩) (q := 1) (.slice (some ⟨qb, 0, none⟩) qm.length qgc) rfl (fun w hw => hw.1) rfl ?_
      refine wX ?_
      refine Nd.mk ⟨rfl, by omega, by omega⟩ ?_
      refine wX ?_
      refine EffW.appTo (i := 1) (q := s1.g.length * 5) (ys := Qa2 ⟨c, na, nc, ia, ic⟩) (grC (qm.set s1.g.length ⟨c, na, nc, ia, ic⟩)) 5 rfl (Qm8 rfl (by show (s1.g.length : Int).toNat * 5 = _; rw [Zdz])) rfl rfl rfl rfl rfl (by show s1.g.length * 5 + 5 <= qm.length * 5; omega) (Qqs _ hat) rfl ?_
      refine wX ?_
      have hrc : rdC { s3 with g := s3.g.set s1.g.length c } ⟨qm.set s1.g.length ⟨c, na, nc, ia, ic⟩, some ⟨qb, 0, none⟩, qgc, qca, qcc, qsa, qsc⟩ = rdC s3 ⟨qm, some ⟨qb, 0, none⟩, qgc, qca, qcc, qsa, qsc⟩ := by simp [rdC]
      refine ⟨rdE rb { s3 with g := s3.g.set s1.g.length c } ⟨qm.set s1.g.length ⟨c, na, nc, ia, ic⟩, some ⟨qb, 0, none⟩, qgc, qca, qcc, qsa, qsc⟩, Zaz rfl, Qge (Zaz rfl) (by rw [hrc]; rfl) (by rw [List.length_set]; rfl) rfl rfl (fun w hw y hy => ?_), ⟨_, rfl⟩, ⟨_, ?_, rfl, rfl⟩⟩
      · rcases List.mem_or_eq_of_mem_set hy with h | h
        · exact hw.1 y h
        · subst h
          exact ⟨hw.2.1, hw.2.2.1⟩
      · exact ⟨by show (qm.set _ _).map (·.c) = s3.g.set _ _; rw [List.map_set]; exact congrArg (fun l => List.set l s1.g.length c) hq1.g, fun y hy => (List.mem_or_eq_of_mem_set hy).elim (hq1.cell y) (fun h => by subst h; exact hq2), (fun h => by cases h), hq1.ca, hq1.sa, hq1.sw, .inr ⟨qb, rfl⟩⟩
  · rw [show decide (x ∈ [(48 : UInt8), 84, 70, 105, 34, 58, 59, 91, 123, 111]) = false from decide_eq_false hx]
    have hcm := hfail (.inr hx)
    subst hcm
    refine wX ?_
    refine Qai (Qdn rb s1 p 4) [0, 1, 2, 3, 4] rfl ⟨rfl, rfl, rfl, rfl, rfl, trivial⟩ rfl fun _ _ => ?_
    refine wX ?_
    refine ⟨rdE rb (Qam s1 4) (p), Zaz rfl, Qge (Zaz rfl) rfl rfl rfl rfl (fun w hw => hw.1), ⟨_, rfl⟩, ⟨p, ok1.same (Qbj s1 4), rfl, rfl⟩⟩
theorem Qvu : ∀ n : Nat, Qtl n
 | 0 => fun rb st p ok bd hn => Qlp 0 rb st p ok (hn.resolve_left (by omega))
 | n + 1 => Qvt n (Qvu n)
end Go.Proofs.YtgogonnnojcioaaGreatDoor
