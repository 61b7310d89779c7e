/-
  TreeSameUptoCardSaid is proved: of every two trees, where what is read is of limited bulk, TreeSame returns true and leaves its arguments as they were; the listed tables are tied to the program's text.
-/
import Derived.Deep.DeepHandedRow
import Derived.Deep.DeepWitnessRowRef
import Derived.Test.YtpikpjlhdkkigaaDoorCards
import Derived.Test.YtpikpjlhdkkigaaDoorTie
import Derived.Test.YtpikpjlhdkkigaaDoorTsa6
set_option linter.unusedVariables false
set_option linter.unusedSimpArgs false
namespace Go.Proofs.YtpikpjlhdkkigaaDoor
open Go.AX Go.RowKit Go.Tree Go.Scan
set_option maxRecDepth 20000
def WalkC (t : TP) : Prop := TreeK t → ∀ (A : World → Prop) (_ : ∀ w, A w → TreeF w t) (rb : Nat) (st : RvS) (m : Nat) (ch : List Nat) (o : Option Nat), RvOk st m → m + 2 * t.sz ≤ 100000 → ChP st.sc ch o → ch ≠ [] →
 SpecH Tryd.prog 17 (pvs [.pointer (some ⟨rb, 0, none⟩), nodeV t, ptrO o]) (rvE A rb st)
  (RetG (ι := RvS) (fun st' => Went st st' (m + 2 * t.sz) (wk t ch (nmS st.sc))) (fun _ => .tuple #[]) fun st' => rvE A rb st')
abbrev isCls (t : TP) : Prop := t.op = 32 ∨ t.op = 33 ∨ t.op = 34
abbrev isRes (t : TP) : Prop := t.op = 41 ∧ t.name ≠ []
structure HdI where
 st : RvS
 ch : List Nat
 o : Option Nat
structure Head (t : TP) (st : RvS) (m : Nat) (ch : List Nat) (o : Option Nat) (i : HdI) : Prop where
 ok : RvOk i.st (m + 1)
 g : ScG st.sc i.st.sc
 chp : ChP i.st.sc i.ch i.o
 ne : i.ch ≠ []
 same : isCls t ∨ isRes t → i = ⟨st, ch, o⟩
 res : ¬ isCls t → ¬ isRes t → ∃ pls un, i.st.pl = st.pl ++ pls ∧ i.st.un = (st.un || un) ∧ wk t ch (nmS st.sc) = ⟨(wks t.kids i.ch (nmS i.st.sc)).nm, pls ++ (wks t.kids i.ch (nmS i.st.sc)).pl, un || (wks t.kids i.ch (nmS i.st.sc)).un⟩
theorem wk_eq (t : TP) (ch : List Nat) (nm : Nm) : wk t ch nm =
  if t.op = 10 then ⟨(wks t.kids ch nm).nm, (fnd nm ch t.name).getD (0, 0) :: (wks t.kids ch nm).pl, (fnd nm ch t.name).isNone || (wks t.kids ch nm).un⟩
  else if t.op = 11 ∨ t.op = 49 ∨ (t.op = 52 ∧ t.name ≠ []) then (wks t.kids ch (sets nm ch t.name).1).pre (sets nm ch t.name).2
  else if t.op = 54 ∧ t.name ≠ [] then (wks t.kids ch (decl nm (ch.headD 0) t.name).1).pre (decl nm (ch.headD 0) t.name).2
  else if t.op = 35 then wks t.kids [nm.length] (nm ++ [[]])
  else if t.op = 24 ∨ t.op = 25 then wks t.kids (nm.length :: ch) (nm ++ [[]])
  else if isRes t then (wkr t.kids t.name ch nm).1.pre (wkr t.kids t.name ch nm).2
  else if isCls t then wkc t.kids ch nm
  else wks t.kids ch nm := by
 cases t
 rfl
theorem nil_iff {l : List UInt8} {b : Bool} (h : ((bs l).data.toList == ((⟨#[]⟩ : ByteArray)).data.toList) = b) : b = true ↔ l = [] := by
 subst h
 cases l with
 | nil => simp [bs]
 | cons a l => simp [bs]
theorem no_mode {t : TP} (h : t.op ≠ 32 ∧ t.op ≠ 33 ∧ t.op ≠ 34 ∧ t.op ≠ 41) : ¬ (isCls t ∨ isRes t) := by
 rintro ((h1 | h1 | h1) | ⟨h1, _⟩)
 ·exact h.1 h1
 ·exact h.2.1 h1
 ·exact h.2.2.1 h1
 ·exact h.2.2.2 h1
theorem Went.cat {a b c : RvS} {m n : Nat} {r q : WR} (h : Went a b m r) (k : Went b c n q) : Went a c n (r.cat q) :=
 ⟨k.ok, h.g.trans k.g, k.nm, by rw [k.pl, h.pl, List.append_assoc]; rfl, by rw [k.un, h.un, Bool.or_assoc]; rfl⟩
theorem WR.cat_nil (r : WR) (n : Nm) (q : WR) : (r.cat ⟨n, [], false⟩).cat q = r.cat q := by simp [WR.cat]
theorem Went.mono {a b : RvS} {m n : Nat} {r : WR} (h : Went a b m r) (hl : m ≤ n) (hn : n ≤ 100000) : Went a b n r := ⟨h.ok.mono hl hn, h.g, h.nm, h.pl, h.un⟩
theorem Went.refl {a : RvS} {m : Nat} (ok : RvOk a m) : Went a a m ⟨nmS a.sc, [], false⟩ := ⟨ok, ScG.refl _, rfl, (List.append_nil _).symm, (Bool.or_false _).symm⟩
theorem wks_snoc {l : List TP} {k : TP} (ch : List Nat) (nm : Nm) : wks (l ++ [k]) ch nm = (wks l ch nm).cat (wk k ch (wks l ch nm).nm) := by
 rw [wks_app, wks, wks]
 simp [WR.cat]
structure LpI where
 i : Nat
 st : RvS
 v : Value
def LpInv (t : TP) (st0 st1 : RvS) (m0 : Nat) (m : Nat) (ch1 : List Nat) (o1 : Option Nat) (fin : WR) (p : LpI) : Prop :=
 p.i ≤ t.kids.length ∧ (p.i < t.kids.length → p.v = ptrO o1 ∧ Went st1 p.st (m + 1 + 2 * szs (t.kids.take p.i)) (wks (t.kids.take p.i) ch1 (nmS st1.sc))) ∧ (p.i = t.kids.length → Went st0 p.st m0 fin)
theorem Went.step {kids : List TP} {i m : Nat} {k : TP} {st1 st2 st3 : RvS} {ch : List Nat} {nm : Nm} (hk : kids[i]? = some k) (wd : Went st1 st2 (m + 2 * szs (kids.take i)) (wks (kids.take i) ch nm))
  (w2 : Went st2 st3 (m + 2 * szs (kids.take i) + 2 * k.sz) (wk k ch (nmS st2.sc))) : Went st1 st3 (m + 2 * szs (kids.take (i + 1))) (wks (kids.take (i + 1)) ch nm) := by
 have h := wd.cat w2
 rw [wd.nm, ← wks_snoc, ← take_snoc hk] at h
 rw [take_szs hk, Nat.mul_add, ← Nat.add_assoc]
 exact h
set_option maxHeartbeats 4000000 in
theorem walk_c : ∀ t, WalkC t := by
 refine TP.ind fun t ih ht A hA rb st m ch o ok hm2 hch hne => ?_
 refine ownCJ hm Tryd.func17 (by kernel_rfl) rfl rfl (fun _ _ => okHB_eq rfl) (fun _ _ => Nat.le_of_ble_eq_true rfl) ?_
 have hsz := sz_eq t
 refine SeqN.plain ?_
 refine wX ?_
 refine SeqN.plain ?_
 refine wX ?_
 refine SeqN.join HdI (fun i => Head t st m ch o i) (fun i => mkS Tryd.f17.ntmps 0 [(0, .c (.v (.pointer (some ⟨rb, 0, none⟩)))), (2, .c (.v (ptrO o))), (4, .c (.lp 6 0)), (6, .c (.v (ptrO i.o)))])
  (fun i => rvE A rb i.st ++ [.blk 24 (vs (nodeC t))]) (fun _ _ => Nat.le_of_ble_eq_true rfl) (fun _ _ => rfl) (fun _ _ => okHB_eq rfl) ?_ ?_
 ·refine wXS ?_
  refine brd_eq (fun h10 => ?_) (fun h10 => ?_)
  ·refine wXS ?_
   refine call1 (find_c st.sc ok.sc ch o hch t.name _ (fun w hw => scF_of ok.sc hw.2.2.2.2.1 hw.2.2.2.2.2.1)) ?_
   have hpm := ok.pm
   obtain ⟨sc, pl, un, sa, scap, pa, pcap⟩ := st
   obtain ⟨p, k, hkv, hk⟩ : ∃ (p : Pl) (k : Bool), fndV (fnd (nmS sc) ch t.name) = .tuple #[.agg #[.int .i64 (p.1 : Int), .int .i64 (p.2 : Int)], .bool k] ∧ ((fnd (nmS sc) ch t.name).getD (0, 0) = p ∧ (fnd (nmS sc) ch t.name).isNone = !k) := by
    cases fnd (nmS sc) ch t.name with
    | none => exact ⟨(0, 0), false, rfl, rfl, rfl⟩
    | some p => exact ⟨p, true, rfl, rfl, rfl⟩
   rw [show fndV (fnd (nmS { sc := sc, pl := pl, un := un, sa := sa, scap := scap, pa := pa, pcap := pcap : RvS }.sc) ch t.name) = _ from hkv]
   cases un with
   | true =>
    refine wXS ?_
    refine LdN.one (a := some ⟨rb, 0, none⟩) (q := 2) (.bool true) rfl (fun w hw => hw.2.1) rfl ?_
    refine wXS ?_
    refine EffW.appTo (i := 1) (q := 2) (ys := [_]) (rvC ⟨sc, pl, true || !k, sa, scap, pa, pcap⟩) 3 rfl rfl rfl rfl rfl rfl rfl (Nat.le_of_ble_eq_true rfl) rfl rfl ?_
    refine wXS ?_
    refine DrawN.plan [0, 1] [(2, 1), (3, 1), (4, 1), (5, 1), (6, 0)] [(7, 0), (8, 0), (9, 0), (10, 0)] (by decide +kernel) ?_
    (conv => whnf)
    refine LdN.one (a := some ⟨rb, 0, none⟩) (q := 1) (.slice (at0 ((⟨sc, pl, true || !k, sa, scap, pa, pcap⟩ : RvS)).pa) ((⟨sc, pl, true || !k, sa, scap, pa, pcap⟩ : RvS)).pl.length ((⟨sc, pl, true || !k, sa, scap, pa, pcap⟩ : RvS)).pcap) rfl (fun w hw => hw.2.1) rfl ?_
    refine wX ?_
    refine Nd.mk ⟨Nat.le_refl 1, rfl, rfl⟩ ?_
    (conv => whnf)
    refine AppN.grow 3 (plsC ((⟨sc, pl, true || !k, sa, scap, pa, pcap⟩ : RvS)).pl) (plC p) rfl rfl ⟨Nat.le_refl 1, ⟨by show (((⟨sc, pl, true || !k, sa, scap, pa, pcap⟩ : RvS)).pl.length + 1) * 16 ≤ _; have h : ((⟨sc, pl, true || !k, sa, scap, pa, pcap⟩ : RvS)).pl.length ≤ m := hpm; omega, by have h : ((⟨sc, pl, true || !k, sa, scap, pa, pcap⟩ : RvS)).pl.length ≤ m := hpm; omega⟩, by decide⟩ fun sb' c' g1 g2 => ?_
    refine wX ?_
    refine EffW.appTo (i := 1) (q := 1) (ys := [_]) (rvC (placed (⟨sc, pl, true || !k, sa, scap, pa, pcap⟩ : RvS) p sb' c')) 3 rfl rfl rfl rfl rfl rfl rfl (Nat.le_of_ble_eq_true rfl) (by simp [rvC, placed, at0]) rfl ?_
    refine wX ?_
    have e1 : plsC ((⟨sc, pl, true || !k, sa, scap, pa, pcap⟩ : RvS)).pl ++ plC p = plsC (placed (⟨sc, pl, true || !k, sa, scap, pa, pcap⟩ : RvS) p sb' c').pl := by simp [plsC, placed]
    have e2 : ((⟨sc, pl, true || !k, sa, scap, pa, pcap⟩ : RvS)).pl.length + 1 = (placed (⟨sc, pl, true || !k, sa, scap, pa, pcap⟩ : RvS) p sb' c').pl.length := by simp [placed]
    rw [e1, e2]
    refine ⟨⟨placed ⟨sc, pl, true || !k, sa, scap, pa, pcap⟩ p sb' c', ch, o⟩, ⟨RvOk.placed (st := ⟨sc, pl, true || !k, sa, scap, pa, pcap⟩) ⟨ok.sc, ok.sl, ok.sn, ok.sm, ok.pl, ok.pn, ok.pm, ok.nl, ok.top⟩ (by omega) g1, ScG.refl _, hch, hne, fun h => absurd h (by omega), fun _ _ => ⟨[p], !k, rfl, rfl, ?_⟩⟩, ?_, ?_⟩
    ·rw [wk_eq, if_pos h10]
     show (⟨_, ((fnd (nmS sc) ch t.name).getD (0, 0)) :: _, (fnd (nmS sc) ch t.name).isNone || _⟩ : WR) = _
     rw [hk.1, hk.2]
     rfl
    ·exact wKK
    ·exact ⟨wkE_refl _, wkE_refl _, wkE_refl _, wkE_refl _, wkE_refl _, wkE_refl _, wkE_refl _, wkH_nil _⟩
   | false =>
    refine wXS ?_
    refine LdN.one (a := some ⟨rb, 0, none⟩) (q := 2) (.bool false) rfl (fun w hw => hw.2.1) rfl ?_
    refine wXS ?_
    refine EffW.appTo (i := 1) (q := 2) (ys := [_]) (rvC ⟨sc, pl, false || !k, sa, scap, pa, pcap⟩) 3 rfl rfl rfl rfl rfl rfl rfl (Nat.le_of_ble_eq_true rfl) rfl rfl ?_
    refine wXS ?_
    refine DrawN.plan [0, 1] [(2, 1), (3, 1), (4, 1), (5, 1), (6, 0)] [(7, 0), (8, 0), (9, 0), (10, 0)] (by decide +kernel) ?_
    (conv => whnf)
    refine LdN.one (a := some ⟨rb, 0, none⟩) (q := 1) (.slice (at0 ((⟨sc, pl, false || !k, sa, scap, pa, pcap⟩ : RvS)).pa) ((⟨sc, pl, false || !k, sa, scap, pa, pcap⟩ : RvS)).pl.length ((⟨sc, pl, false || !k, sa, scap, pa, pcap⟩ : RvS)).pcap) rfl (fun w hw => hw.2.1) rfl ?_
    refine wX ?_
    refine Nd.mk ⟨Nat.le_refl 1, rfl, rfl⟩ ?_
    (conv => whnf)
    refine AppN.grow 3 (plsC ((⟨sc, pl, false || !k, sa, scap, pa, pcap⟩ : RvS)).pl) (plC p) rfl rfl ⟨Nat.le_refl 1, ⟨by show (((⟨sc, pl, false || !k, sa, scap, pa, pcap⟩ : RvS)).pl.length + 1) * 16 ≤ _; have h : ((⟨sc, pl, false || !k, sa, scap, pa, pcap⟩ : RvS)).pl.length ≤ m := hpm; omega, by have h : ((⟨sc, pl, false || !k, sa, scap, pa, pcap⟩ : RvS)).pl.length ≤ m := hpm; omega⟩, by decide⟩ fun sb' c' g1 g2 => ?_
    refine wX ?_
    refine EffW.appTo (i := 1) (q := 1) (ys := [_]) (rvC (placed (⟨sc, pl, false || !k, sa, scap, pa, pcap⟩ : RvS) p sb' c')) 3 rfl rfl rfl rfl rfl rfl rfl (Nat.le_of_ble_eq_true rfl) (by simp [rvC, placed, at0]) rfl ?_
    refine wX ?_
    have e1 : plsC ((⟨sc, pl, false || !k, sa, scap, pa, pcap⟩ : RvS)).pl ++ plC p = plsC (placed (⟨sc, pl, false || !k, sa, scap, pa, pcap⟩ : RvS) p sb' c').pl := by simp [plsC, placed]
    have e2 : ((⟨sc, pl, false || !k, sa, scap, pa, pcap⟩ : RvS)).pl.length + 1 = (placed (⟨sc, pl, false || !k, sa, scap, pa, pcap⟩ : RvS) p sb' c').pl.length := by simp [placed]
    rw [e1, e2]
    refine ⟨⟨placed ⟨sc, pl, false || !k, sa, scap, pa, pcap⟩ p sb' c', ch, o⟩, ⟨RvOk.placed (st := ⟨sc, pl, false || !k, sa, scap, pa, pcap⟩) ⟨ok.sc, ok.sl, ok.sn, ok.sm, ok.pl, ok.pn, ok.pm, ok.nl, ok.top⟩ (by omega) g1, ScG.refl _, hch, hne, fun h => absurd h (by omega), fun _ _ => ⟨[p], !k, rfl, rfl, ?_⟩⟩, ?_, ?_⟩
    ·rw [wk_eq, if_pos h10]
     show (⟨_, ((fnd (nmS sc) ch t.name).getD (0, 0)) :: _, (fnd (nmS sc) ch t.name).isNone || _⟩ : WR) = _
     rw [hk.1, hk.2]
     rfl
    ·exact wKK
    ·exact ⟨wkE_refl _, wkE_refl _, wkE_refl _, wkE_refl _, wkE_refl _, wkE_refl _, wkE_refl _, wkH_nil _⟩
  ·refine wXS ?_
   refine brd_eq (fun h11 => ?_) (fun h11 => ?_)
   ·refine wXS ?_
    refine callG (declare_c A rb st ok (by omega) ch o hch hne t.name false) [0, 1, 2, 3, 4, 5] rfl ⟨rfl, rfl, rfl, rfl, rfl, rfl, trivial⟩ rfl fun st1 w1 => ?_
    obtain ⟨k1, k2, k3, k4, k5⟩ := w1
    refine wXS ?_
    refine ⟨⟨st1, ch, o⟩, ⟨k1, k2, hch.grow k2, hne, fun h => absurd h (no_mode (by omega)), fun _ _ => ⟨_, _, k4, k5, ?_⟩⟩, ?_, ?_⟩
    ·rw [wk_eq]
     show _ = (⟨(wks t.kids ch (nmS st1.sc)).nm, _, _⟩ : WR)
     rw [k3]
     rw [if_neg h10, if_pos (.inl h11)]; rfl
    ·exact wKK
    ·exact ⟨wkE_refl _, wkE_refl _, wkE_refl _, wkE_refl _, wkE_refl _, wkE_refl _, wkE_refl _, wkH_nil _⟩
   refine wXS ?_
   refine brd_eq (fun h49 => ?_) (fun h49 => ?_)
   ·refine wXS ?_
    refine callG (declare_c A rb st ok (by omega) ch o hch hne t.name false) [0, 1, 2, 3, 4, 5] rfl ⟨rfl, rfl, rfl, rfl, rfl, rfl, trivial⟩ rfl fun st1 w1 => ?_
    obtain ⟨k1, k2, k3, k4, k5⟩ := w1
    refine wXS ?_
    refine ⟨⟨st1, ch, o⟩, ⟨k1, k2, hch.grow k2, hne, fun h => absurd h (no_mode (by omega)), fun _ _ => ⟨_, _, k4, k5, ?_⟩⟩, ?_, ?_⟩
    ·rw [wk_eq]
     show _ = (⟨(wks t.kids ch (nmS st1.sc)).nm, _, _⟩ : WR)
     rw [k3]
     rw [if_neg h10, if_pos (.inr (.inl h49))]; rfl
    ·exact wKK
    ·exact ⟨wkE_refl _, wkE_refl _, wkE_refl _, wkE_refl _, wkE_refl _, wkE_refl _, wkE_refl _, wkH_nil _⟩
   refine wXS ?_
   refine brd_eq (fun h52 => ?_) (fun h52 => ?_)
   ·refine wXS ?_
    refine brd_not (brd_intro (fun hn => ?_) (fun hn => ?_))
    ·have hn' := (nil_iff hn).1 rfl
     refine wXS ?_
     have n2 : ¬ (t.op = 11 ∨ t.op = 49 ∨ t.op = 52 ∧ t.name ≠ []) := fun h => h.elim h11 fun h => h.elim h49 fun h => h.2 hn'
     refine ⟨⟨st, ch, o⟩, ⟨ok.mono (Nat.le_succ _) (by omega), ScG.refl _, hch, hne, fun _ => rfl, fun hc hr => ⟨[], false, (List.append_nil _).symm, (Bool.or_false _).symm, ?_⟩⟩, ?_, ?_⟩
     ·rw [wk_eq]
      show _ = wks t.kids ch (nmS st.sc)
      rw [if_neg h10, if_neg n2, if_neg (by omega), if_neg (by omega), if_neg (by omega), if_neg hr, if_neg hc]
     ·exact wKK
     ·exact ⟨wkE_refl _, wkE_refl _, wkE_refl _, wkE_refl _, wkE_refl _, wkE_refl _, wkE_refl _, wkH_nil _⟩
    ·have hn' : t.name ≠ [] := fun h => by cases (nil_iff hn).2 h
     refine wXS ?_
     refine callG (declare_c A rb st ok (by omega) ch o hch hne t.name false) [0, 1, 2, 3, 4, 5] rfl ⟨rfl, rfl, rfl, rfl, rfl, rfl, trivial⟩ rfl fun st1 w1 => ?_
     obtain ⟨k1, k2, k3, k4, k5⟩ := w1
     refine wXS ?_
     refine ⟨⟨st1, ch, o⟩, ⟨k1, k2, hch.grow k2, hne, fun h => absurd h (no_mode (by omega)), fun _ _ => ⟨_, _, k4, k5, ?_⟩⟩, ?_, ?_⟩
     ·rw [wk_eq]
      show _ = (⟨(wks t.kids ch (nmS st1.sc)).nm, _, _⟩ : WR)
      rw [k3]
      rw [if_neg h10, if_pos (.inr (.inr ⟨h52, hn'⟩))]; rfl
     ·exact wKK
     ·exact ⟨wkE_refl _, wkE_refl _, wkE_refl _, wkE_refl _, wkE_refl _, wkE_refl _, wkE_refl _, wkH_nil _⟩
   refine wXS ?_
   refine brd_eq (fun h54 => ?_) (fun h54 => ?_)
   ·have n2 : ¬ (t.op = 11 ∨ t.op = 49 ∨ t.op = 52 ∧ t.name ≠ []) := by omega
    refine wXS ?_
    refine brd_not (brd_intro (fun hn => ?_) (fun hn => ?_))
    ·have hn' := (nil_iff hn).1 rfl
     refine wXS ?_
     refine ⟨⟨st, ch, o⟩, ⟨ok.mono (Nat.le_succ _) (by omega), ScG.refl _, hch, hne, fun _ => rfl, fun hc hr => ⟨[], false, (List.append_nil _).symm, (Bool.or_false _).symm, ?_⟩⟩, ?_, ?_⟩
     ·rw [wk_eq]
      show _ = wks t.kids ch (nmS st.sc)
      rw [if_neg h10, if_neg n2, if_neg (fun h => h.2 hn'), if_neg (by omega), if_neg (by omega), if_neg hr, if_neg hc]
     ·exact wKK
     ·exact ⟨wkE_refl _, wkE_refl _, wkE_refl _, wkE_refl _, wkE_refl _, wkE_refl _, wkE_refl _, wkH_nil _⟩
    ·have hn' : t.name ≠ [] := fun h => by cases (nil_iff hn).2 h
     refine wXS ?_
     refine callG (declare_c A rb st ok (by omega) ch o hch hne t.name true) [0, 1, 2, 3, 4, 5] rfl ⟨rfl, rfl, rfl, rfl, rfl, rfl, trivial⟩ rfl fun st1 w1 => ?_
     obtain ⟨k1, k2, k3, k4, k5⟩ := w1
     refine wXS ?_
     refine ⟨⟨st1, ch, o⟩, ⟨k1, k2, hch.grow k2, hne, fun h => absurd h (no_mode (by omega)), fun _ _ => ⟨_, _, k4, k5, ?_⟩⟩, ?_, ?_⟩
     ·rw [wk_eq]
      show _ = (⟨(wks t.kids ch (nmS st1.sc)).nm, _, _⟩ : WR)
      rw [k3]
      rw [if_neg h10, if_neg n2, if_pos ⟨h54, hn'⟩]; rfl
     ·exact wKK
     ·exact ⟨wkE_refl _, wkE_refl _, wkE_refl _, wkE_refl _, wkE_refl _, wkE_refl _, wkE_refl _, wkH_nil _⟩
   refine wXS ?_
   have n2 : ¬ (t.op = 11 ∨ t.op = 49 ∨ t.op = 52 ∧ t.name ≠ []) := by omega
   have n3 : ¬ (t.op = 54 ∧ t.name ≠ []) := fun h => h54 h.1
   refine brd_eq (fun h35 => ?_) (fun h35 => ?_)
   ·refine wXS ?_
    refine callG (open_c A rb st ok none) [0, 1, 2, 3, 4, 5] rfl ⟨rfl, rfl, rfl, rfl, rfl, rfl, trivial⟩ rfl fun j hj => ?_
    obtain ⟨b, sb, c⟩ := j
    refine wXS ?_
    have hgr : ScG st.sc (opened st b none sb c).sc := ScG.snoc _ _
    have hnm : nmS (opened st b none sb c).sc = nmS st.sc ++ [[]] := by simp [nmS, opened]
    have hat : (opened st b none sb c).sc[st.sc.length]? = some ⟨b, none, 0, none, []⟩ := by simp [opened]
    have hnl : (nmS st.sc).length = st.sc.length := by simp [nmS]
    refine ⟨⟨opened st b none sb c, [st.sc.length], some b⟩, ⟨ok.opened (by omega) hj, hgr, ⟨_, hat, rfl, rfl⟩, (by simp), fun h => absurd h (no_mode (by omega)), fun _ _ => ⟨[], false, (List.append_nil _).symm, (Bool.or_false _).symm, ?_⟩⟩, ?_, ?_⟩
    ·rw [wk_eq]
     show _ = wks t.kids [st.sc.length] (nmS (opened st b none sb c).sc)
     rw [hnm, ← hnl]
     rw [if_neg h10, if_neg n2, if_neg n3, if_pos h35]
    ·exact wKK
    ·exact ⟨wkE_refl _, wkE_refl _, wkE_refl _, wkE_refl _, wkE_refl _, wkE_refl _, wkE_refl _, wkH_nil _⟩
   refine wXS ?_
   refine brd_eq (fun h24 => ?_) (fun h24 => ?_)
   ·refine wXS ?_
    refine callG (open_c A rb st ok o) [0, 1, 2, 3, 4, 5] rfl ⟨rfl, rfl, rfl, rfl, rfl, rfl, trivial⟩ rfl fun j hj => ?_
    obtain ⟨b, sb, c⟩ := j
    refine wXS ?_
    have hgr : ScG st.sc (opened st b o sb c).sc := ScG.snoc _ _
    have hnm : nmS (opened st b o sb c).sc = nmS st.sc ++ [[]] := by simp [nmS, opened]
    have hat : (opened st b o sb c).sc[st.sc.length]? = some ⟨b, none, 0, o, []⟩ := by simp [opened]
    have hnl : (nmS st.sc).length = st.sc.length := by simp [nmS]
    refine ⟨⟨opened st b o sb c, (st.sc.length :: ch), some b⟩, ⟨ok.opened (by omega) hj, hgr, ⟨_, hat, rfl, hch.grow hgr⟩, (by simp), fun h => absurd h (no_mode (by omega)), fun _ _ => ⟨[], false, (List.append_nil _).symm, (Bool.or_false _).symm, ?_⟩⟩, ?_, ?_⟩
    ·rw [wk_eq]
     show _ = wks t.kids (st.sc.length :: ch) (nmS (opened st b o sb c).sc)
     rw [hnm, ← hnl]
     rw [if_neg h10, if_neg n2, if_neg n3, if_neg h35, if_pos (.inl h24)]
    ·exact wKK
    ·exact ⟨wkE_refl _, wkE_refl _, wkE_refl _, wkE_refl _, wkE_refl _, wkE_refl _, wkE_refl _, wkH_nil _⟩
   refine wXS ?_
   refine brd_eq (fun h25 => ?_) (fun h25 => ?_)
   ·refine wXS ?_
    refine callG (open_c A rb st ok o) [0, 1, 2, 3, 4, 5] rfl ⟨rfl, rfl, rfl, rfl, rfl, rfl, trivial⟩ rfl fun j hj => ?_
    obtain ⟨b, sb, c⟩ := j
    refine wXS ?_
    have hgr : ScG st.sc (opened st b o sb c).sc := ScG.snoc _ _
    have hnm : nmS (opened st b o sb c).sc = nmS st.sc ++ [[]] := by simp [nmS, opened]
    have hat : (opened st b o sb c).sc[st.sc.length]? = some ⟨b, none, 0, o, []⟩ := by simp [opened]
    have hnl : (nmS st.sc).length = st.sc.length := by simp [nmS]
    refine ⟨⟨opened st b o sb c, (st.sc.length :: ch), some b⟩, ⟨ok.opened (by omega) hj, hgr, ⟨_, hat, rfl, hch.grow hgr⟩, (by simp), fun h => absurd h (no_mode (by omega)), fun _ _ => ⟨[], false, (List.append_nil _).symm, (Bool.or_false _).symm, ?_⟩⟩, ?_, ?_⟩
    ·rw [wk_eq]
     show _ = wks t.kids (st.sc.length :: ch) (nmS (opened st b o sb c).sc)
     rw [hnm, ← hnl]
     rw [if_neg h10, if_neg n2, if_neg n3, if_neg h35, if_pos (.inr h25)]
    ·exact wKK
    ·exact ⟨wkE_refl _, wkE_refl _, wkE_refl _, wkE_refl _, wkE_refl _, wkE_refl _, wkE_refl _, wkH_nil _⟩
   refine wXS ?_
   refine ⟨⟨st, ch, o⟩, ⟨ok.mono (Nat.le_succ _) (by omega), ScG.refl _, hch, hne, fun _ => rfl, fun hc hr => ⟨[], false, (List.append_nil _).symm, (Bool.or_false _).symm, ?_⟩⟩, ?_, ?_⟩
   ·rw [wk_eq]
    show _ = wks t.kids ch (nmS st.sc)
    rw [if_neg h10, if_neg n2, if_neg n3, if_neg h35, if_neg (by omega), if_neg hr, if_neg hc]
   ·exact wKK
   ·exact ⟨wkE_refl _, wkE_refl _, wkE_refl _, wkE_refl _, wkE_refl _, wkE_refl _, wkE_refl _, wkH_nil _⟩
 rintro ⟨st1, ch1, o1⟩ ⟨k1, k2, k3, k4, k5, k6⟩
 refine wXS ?_
 have hkl := ht.len
 refine brd_eq (fun h41 => ?_) (fun h41 => ?_)
 ·have hc : ¬ isCls t := by
   rintro (h | h | h) <;> omega
  refine wXS ?_
  refine brd_not (brd_intro (fun hn => ?_) (fun hn => ?_))
  ·have hn' := (nil_iff hn).1 rfl
   have hr : ¬ isRes t := fun h => h.2 hn'
   refine wXS ?_
   have hfin : ∀ (s2 : RvS) (n : Nat), Went st1 s2 n (wks t.kids ch1 (nmS st1.sc)) → Went st s2 n (wk t ch (nmS st.sc)) := fun s2 n w => by
    obtain ⟨pls, un, q1, q2, q3⟩ := k6 hc hr
    rw [q3]
    exact ⟨w.ok, k2.trans w.g, w.nm, by rw [w.pl, q1, List.append_assoc], by rw [w.un, q2, Bool.or_assoc]⟩
   refine LoopN.intro LpI (fun p => LpInv t st st1 (m + 2 * t.sz) m ch1 o1 (wk t ch (nmS st.sc)) p)
    (fun ⟨i, _, v⟩ => mkS Tryd.f17.ntmps 0 [(0, .c (.v (.pointer (some ⟨rb, 0, none⟩)))), (2, .c (.v (ptrO o))), (4, .c (.lp 6 0)), (6, .c (.v v)), (9, .c (.v (.int .i64 ((t.kids.length : Int) - 1)))), (10, .c (.v (.int .i64 (-1)))), (112, .c (.v (.slice t.a t.kids.length t.cap))), (113, .c (.v (.int .i64 (t.kids.length : Int)))), (114, .c (.v (.int .i64 (i : Int))))])
    (fun ⟨_, st2, _⟩ => rvE A rb st2 ++ (.blk 24 (vs (nodeC t)) :: [])) (fun ⟨i, _, _⟩ => t.kids.length - i) [] rfl (fun _ => rfl) (fun _ => rfl) (fun _ _ => okHB_eq rfl)
    ⟨⟨0, st1, ptrO o1⟩, ⟨Nat.zero_le _, fun _ => ⟨rfl, ?_⟩, fun h0 => ?_⟩, ?_, ?_⟩ ?_
   ·exact Went.refl (k1.mono (Nat.le_add_right _ _) (by show m + 1 + 2 * 0 ≤ _; omega))
   ·have : t.kids = [] := List.length_eq_zero_iff.1 h0.symm
    refine hfin _ _ ?_
    rw [this]
    exact Went.refl (k1.mono (by omega) hm2)
   ·(repeat' (first | exact trivial | refine And.intro (by with_reducible rfl) ?_ | (with_reducible exact wkC_refl _) | (with_reducible exact wkCs_refl _) | refine And.intro ?_ ?_))
    all_goals first | rfl | exact av_int (by rw [wrap_i64 (by omega)])
   ·(repeat (first | exact wkH_nil _ | exact trivial | refine And.intro (wkE_refl _) ?_ | refine And.intro trivial ?_))
   rintro ⟨i, st2, v⟩ ⟨hi, hlt, hend⟩
   have hi : i ≤ t.kids.length := hi
   refine wXS ?_
   refine brd_dec (fun (h1 : (i : Int) < (t.kids.length : Int)) => ?_) (fun (h1 : ¬ (i : Int) < (t.kids.length : Int)) => ?_)
   ·have hil : i < t.kids.length := by omega
    obtain ⟨k, hk⟩ : ∃ k, t.kids[i]? = some k := ⟨_, List.getElem?_eq_getElem hil⟩
    have hsa := kid_some ht hk
    have hkm := List.mem_of_getElem? hk
    obtain ⟨hv, wd⟩ := hlt hil
    obtain rfl : v = ptrO o1 := hv
    have hts : szs (t.kids.take (i + 1)) = szs (t.kids.take i) + k.sz := take_szs hk
    have hto := szs_take t.kids (i + 1)
    refine wXS ?_
    refine Nd.mk ⟨hsa, by omega, by omega⟩ ?_
    refine wXS ?_
    refine LdN.agg (nodeC k) rfl (fun w hw => (hA w hw.1).row) rfl (fun j hj => by rw [Int.toNat_natCast]; exact nodesC_get t.kids i j hj hk) ?_
    refine wXS ?_
    refine brd_eq (fun (h2 : (i : Int) = (t.kids.length : Int) - 1) => ?_) (fun (h2 : ¬ (i : Int) = (t.kids.length : Int) - 1) => ?_)
    ·have hi1 : i + 1 = t.kids.length := by omega
     ((conv => whnf); (repeat ((first | refine SeqN.plain ?_ | refine BoxN.own ?_ | refine VrN.norm (wrap_i64 (by omega)) ?_ | refine VrN.keep ?_ | refine DrawN.calm (by decide +kernel) ?_ | refine Nd.mk (by decide +kernel) ?_ | refine Nd.mk (by omega) ?_ | (refine Nd.mk ?_ ?_; focus ((repeat' (first | exact trivial | exact wkE_refl _ | refine And.intro ?_ ?_)); done)) | refine RdN.intro _ rfl (by rfl) ?_); (conv => whnf))))
     refine RwN.known (intC [32, 33, 34]) rfl fun lb => ?_
     ((conv => whnf); (repeat ((first | refine SeqN.plain ?_ | refine BoxN.own ?_ | refine VrN.norm (wrap_i64 (by omega)) ?_ | refine VrN.keep ?_ | refine DrawN.calm (by decide +kernel) ?_ | refine Nd.mk (by decide +kernel) ?_ | refine Nd.mk (by omega) ?_ | (refine Nd.mk ?_ ?_; focus ((repeat' (first | exact trivial | exact wkE_refl _ | refine And.intro ?_ ?_)); done)) | refine RdN.intro _ rfl (by rfl) ?_); (conv => whnf))))
     refine call1 (ContainsI_c (some ⟨lb, 0, none⟩) [32, 33, 34] 3 t.op (fun _ => rfl) (by decide) _ (fun w hw => hw.2.2.2.2.2.2.1)) ?_
     rw [show [32, 33, 34].contains t.op = false from by simpa using hc]
     refine wXS ?_
     refine brd_eq (fun h3 => ?_) (fun h3 => absurd h2 h3)
     refine wXS ?_
     refine callG (ih k hkm (ht.kid hkm) A (fun w h => (hA w h).kid hkm) rb st2 (m + 1 + 2 * szs (t.kids.take i)) ch1 o1 wd.ok (by omega) (k3.grow wd.g) k4) [0, 1, 2, 3, 4, 5] rfl ⟨rfl, rfl, rfl, rfl, rfl, rfl, trivial⟩ rfl fun st3 w3 => ?_
     refine wXS ?_
     have w4 := Went.step hk wd w3
     rw [hi1, List.take_length] at w4
     refine ⟨⟨i + 1, st3, ptrO o1⟩, ⟨by show i + 1 ≤ _; omega, fun h => absurd h (by show ¬ i + 1 < _; omega), fun _ => hfin _ _ (w4.mono (by omega) (by omega))⟩, by show t.kids.length - (i + 1) < t.kids.length - i; omega, ?_, ?_⟩
     ·exact wKK
     ·(repeat (first | exact wkH_nil _ | exact trivial | refine And.intro (wkE_refl _) ?_ | refine And.intro trivial ?_))
    ·have hi1 : i + 1 < t.kids.length := by omega
     refine wXS ?_
     refine brd_eq (fun h3 => absurd h3 h2) (fun _ => ?_)
     refine wXS ?_
     refine callG (ih k hkm (ht.kid hkm) A (fun w h => (hA w h).kid hkm) rb st2 (m + 1 + 2 * szs (t.kids.take i)) ch1 o1 wd.ok (by omega) (k3.grow wd.g) k4) [0, 1, 2, 3, 4, 5] rfl ⟨rfl, rfl, rfl, rfl, rfl, rfl, trivial⟩ rfl fun st3 w3 => ?_
     refine wXS ?_
     refine ⟨⟨i + 1, st3, ptrO o1⟩, ⟨by show i + 1 ≤ _; omega, fun _ => ⟨rfl, Went.step hk wd w3⟩, fun h => absurd h (by show ¬ i + 1 = _; omega)⟩, by show t.kids.length - (i + 1) < t.kids.length - i; omega, ?_, ?_⟩
     ·exact wKK
     ·(repeat (first | exact wkH_nil _ | exact trivial | refine And.intro (wkE_refl _) ?_ | refine And.intro trivial ?_))
   ·have hil : i = t.kids.length := by omega
    refine wXS ?_
    refine ⟨st2, hend hil, rfl, ?_⟩
    (repeat (first | exact wkH_nil _ | exact trivial | refine And.intro (wkE_refl _) ?_ | refine And.intro trivial ?_))
  ·have hr : isRes t := ⟨h41, fun h => by cases (nil_iff hn).2 h⟩
   obtain ⟨⟩ := k5 (.inr hr)
   have hpm := ok.pm
   refine wXS ?_
   refine LdN.one (a := some ⟨rb, 0, none⟩) (q := 1) (.slice (at0 st.pa) st.pl.length st.pcap) rfl (fun w hw => hw.2.1) rfl ?_
   refine wXS ?_
   refine LdN.one (a := some ⟨rb, 0, none⟩) (q := 1) (.slice (at0 st.pa) st.pl.length st.pcap) rfl (fun w hw => hw.2.1) rfl ?_
   refine wXS ?_
   refine AppN.grow 3 (plsC st.pl) (plC (0, 0)) rfl rfl ⟨Nat.le_refl 1, ⟨by show (st.pl.length + 1) * 16 ≤ _; omega, by omega⟩, by decide⟩ fun pb pc g1 g2 => ?_
   refine wXS ?_
   refine EffW.appTo (i := 1) (q := 1) (ys := [_]) (rvC (placed st (0, 0) pb pc)) 3 rfl rfl rfl rfl rfl rfl rfl (Nat.le_of_ble_eq_true rfl) (by simp [rvC, placed, at0]) rfl ?_
   refine wXS ?_
   have e1 : plsC st.pl ++ plC (0, 0) = plsC (placed st (0, 0) pb pc).pl := by simp [plsC, placed]
   have e2 : st.pl.length + 1 = (placed st (0, 0) pb pc).pl.length := by simp [placed]
   rw [e1, e2]
   have ok1 : RvOk (placed st (0, 0) pb pc) (m + 1) := ok.placed (by omega) g1
   have hwk : wk t ch (nmS st.sc) = (wkr t.kids t.name ch (nmS st.sc)).1.pre (wkr t.kids t.name ch (nmS st.sc)).2 := by
    rw [wk_eq, if_neg (by omega), if_neg (by omega), if_neg (by omega), if_neg (by omega), if_neg (by omega), if_pos hr]
   refine LoopN.intro LpI (fun p => LpInv t st (placed st (0, 0) pb pc) (m + 2 * t.sz) m ch o (wk t ch (nmS st.sc)) p)
    (fun ⟨i, _, v⟩ => mkS Tryd.f17.ntmps 0 [(0, .c (.v (.pointer (some ⟨rb, 0, none⟩)))), (2, .c (.v (ptrO o))), (4, .c (.lp 6 0)), (6, .c (.v v)), (9, .c (.v (.int .i64 ((t.kids.length : Int) - 1)))), (10, .c (.v (.int .i64 ((st.pl.length : Int))))), (112, .c (.v (.slice t.a t.kids.length t.cap))), (113, .c (.v (.int .i64 (t.kids.length : Int)))), (114, .c (.v (.int .i64 (i : Int))))])
    (fun ⟨_, st2, _⟩ => rvE A rb st2 ++ (.blk 24 (vs (nodeC t)) :: [.dead])) (fun ⟨i, _, _⟩ => t.kids.length - i) [] rfl (fun _ => rfl) (fun _ => rfl) (fun _ _ => okHB_eq rfl)
    ⟨⟨0, (placed st (0, 0) pb pc), ptrO o⟩, ⟨Nat.zero_le _, fun _ => ⟨rfl, ?_⟩, fun h0 => ?_⟩, ?_, ?_⟩ ?_
   ·exact Went.refl ok1
   ·have : t.kids = [] := List.length_eq_zero_iff.1 h0.symm
    rw [hwk, this]
    exact ⟨ok1.mono (by omega) hm2, ScG.refl _, rfl, rfl, (Bool.or_false _).symm⟩
   ·(repeat' (first | exact trivial | refine And.intro (by with_reducible rfl) ?_ | (with_reducible exact wkC_refl _) | (with_reducible exact wkCs_refl _) | refine And.intro ?_ ?_))
    all_goals first | rfl | exact av_int (by rw [wrap_i64 (by omega)])
   ·(repeat (first | exact wkH_nil _ | exact trivial | refine And.intro (wkE_refl _) ?_ | refine And.intro trivial ?_))
   rintro ⟨i, st2, v⟩ ⟨hi, hlt, hend⟩
   have hi : i ≤ t.kids.length := hi
   refine wXS ?_
   refine brd_dec (fun (h1 : (i : Int) < (t.kids.length : Int)) => ?_) (fun (h1 : ¬ (i : Int) < (t.kids.length : Int)) => ?_)
   ·have hil : i < t.kids.length := by omega
    obtain ⟨k, hk⟩ : ∃ k, t.kids[i]? = some k := ⟨_, List.getElem?_eq_getElem hil⟩
    have hsa := kid_some ht hk
    have hkm := List.mem_of_getElem? hk
    obtain ⟨hv, wd⟩ := hlt hil
    obtain rfl : v = ptrO o := hv
    have hts : szs (t.kids.take (i + 1)) = szs (t.kids.take i) + k.sz := take_szs hk
    have hto := szs_take t.kids (i + 1)
    refine wXS ?_
    refine Nd.mk ⟨hsa, by omega, by omega⟩ ?_
    refine wXS ?_
    refine LdN.agg (nodeC k) rfl (fun w hw => (hA w hw.1).row) rfl (fun j hj => by rw [Int.toNat_natCast]; exact nodesC_get t.kids i j hj hk) ?_
    refine wXS ?_
    refine brd_eq (fun (h2 : (i : Int) = (t.kids.length : Int) - 1) => ?_) (fun (h2 : ¬ (i : Int) = (t.kids.length : Int) - 1) => ?_)
    ·have hi1 : i + 1 = t.kids.length := by omega
     ((conv => whnf); (repeat ((first | refine SeqN.plain ?_ | refine BoxN.own ?_ | refine VrN.norm (wrap_i64 (by omega)) ?_ | refine VrN.keep ?_ | refine DrawN.calm (by decide +kernel) ?_ | refine Nd.mk (by decide +kernel) ?_ | refine Nd.mk (by omega) ?_ | (refine Nd.mk ?_ ?_; focus ((repeat' (first | exact trivial | exact wkE_refl _ | refine And.intro ?_ ?_)); done)) | refine RdN.intro _ rfl (by rfl) ?_); (conv => whnf))))
     refine RwN.known (intC [32, 33, 34]) rfl fun lb => ?_
     ((conv => whnf); (repeat ((first | refine SeqN.plain ?_ | refine BoxN.own ?_ | refine VrN.norm (wrap_i64 (by omega)) ?_ | refine VrN.keep ?_ | refine DrawN.calm (by decide +kernel) ?_ | refine Nd.mk (by decide +kernel) ?_ | refine Nd.mk (by omega) ?_ | (refine Nd.mk ?_ ?_; focus ((repeat' (first | exact trivial | exact wkE_refl _ | refine And.intro ?_ ?_)); done)) | refine RdN.intro _ rfl (by rfl) ?_); (conv => whnf))))
     refine call1 (ContainsI_c (some ⟨lb, 0, none⟩) [32, 33, 34] 3 t.op (fun _ => rfl) (by decide) _ (fun w hw => hw.2.2.2.2.2.2.1)) ?_
     rw [show [32, 33, 34].contains t.op = false from by simpa using hc]
     refine wXS ?_
     refine brd_eq (fun h3 => ?_) (fun h3 => absurd h2 h3)
     refine wXS ?_
     have hom : m + 1 + 2 * szs (t.kids.take i) < 100000 := by omega
     have hpl2 : st2.pl = (st.pl ++ [(0, 0)]) ++ (wks (t.kids.take i) ch (nmS st.sc)).pl := wd.pl
     have hch2 : ChP st2.sc ch o := ChP.grow (sc := st.sc) wd.g hch
     refine callG (rescue_c A rb st2 wd.ok hom ch o hch2 hne t.name st.pl.length (by rw [hpl2]; simp only [List.length_append, List.length_singleton]; omega)) [0, 1, 2, 3, 4, 5] rfl ⟨rfl, rfl, rfl, rfl, rfl, rfl, trivial⟩ rfl fun st5 w5 => ?_
     refine wXS ?_
     refine callG (ih k hkm (ht.kid hkm) A (fun w h => (hA w h).kid hkm) rb st5 (m + 1 + 2 * szs (t.kids.take i) + 1) ch o w5.ok (by omega) (hch2.grow w5.g) hne) [0, 1, 2, 3, 4, 5] rfl ⟨rfl, rfl, rfl, rfl, rfl, rfl, trivial⟩ rfl fun st3 w3 => ?_
     refine wXS ?_
     have hw := wkr_snoc (t.kids.take i) k t.name ch (nmS st.sc)
     have hwn : nmS st2.sc = (wks (t.kids.take i) ch (nmS st.sc)).nm := wd.nm
     rw [← take_snoc hk, hi1, List.take_length, ← hwn, ← w5.nm] at hw
     rw [hw] at hwk
     have w4 : Went st st3 (m + 1 + 2 * szs (t.kids.take i) + 1 + 2 * k.sz) (wk t ch (nmS st.sc)) := by
      rw [hwk]
      refine ⟨w3.ok, wd.g.trans (w5.g.trans w3.g), w3.nm, ?_, ?_⟩
      ·rw [w3.pl, w5.pl, hpl2]
       simp [WR.pre, WR.cat]
      ·rw [w3.un, w5.un, wd.un, Bool.or_assoc]
       rfl
     refine ⟨⟨i + 1, st3, ptrO o⟩, ⟨by show i + 1 ≤ _; omega, fun h => absurd h (by show ¬ i + 1 < _; omega), fun _ => w4.mono (by omega) (by omega)⟩, by show t.kids.length - (i + 1) < t.kids.length - i; omega, ?_, ?_⟩
     ·exact wKK
     ·(repeat (first | exact wkH_nil _ | exact trivial | refine And.intro (wkE_refl _) ?_ | refine And.intro trivial ?_))
    ·-- not the last kid
     have hi1 : i + 1 < t.kids.length := by omega
     refine wXS ?_
     refine brd_eq (fun h3 => absurd h3 h2) (fun _ => ?_)
     refine wXS ?_
     refine callG (ih k hkm (ht.kid hkm) A (fun w h => (hA w h).kid hkm) rb st2 (m + 1 + 2 * szs (t.kids.take i)) ch o wd.ok (by omega) (hch.grow wd.g) hne) [0, 1, 2, 3, 4, 5] rfl ⟨rfl, rfl, rfl, rfl, rfl, rfl, trivial⟩ rfl fun st3 w3 => ?_
     refine wXS ?_
     refine ⟨⟨i + 1, st3, ptrO o⟩, ⟨by show i + 1 ≤ _; omega, fun _ => ⟨rfl, Went.step hk wd w3⟩, fun h => absurd h (by show ¬ i + 1 = _; omega)⟩, by show t.kids.length - (i + 1) < t.kids.length - i; omega, ?_, ?_⟩
     ·exact wKK
     ·(repeat (first | exact wkH_nil _ | exact trivial | refine And.intro (wkE_refl _) ?_ | refine And.intro trivial ?_))
   ·have hil : i = t.kids.length := by omega
    refine wXS ?_
    refine ⟨st2, hend hil, rfl, ?_⟩
    (repeat (first | exact wkH_nil _ | exact trivial | refine And.intro (wkE_refl _) ?_ | refine And.intro trivial ?_))
 ·have hr : ¬ isRes t := fun h => h41 h.1
  refine wXS ?_
  by_cases hc : isCls t
  ·obtain ⟨⟩ := k5 (.inl hc)
   have hwk : wk t ch (nmS st.sc) = wkc t.kids ch (nmS st.sc) := by
    have hcc := hc
    rw [wk_eq, if_neg (by rcases hcc with h | h | h <;> omega), if_neg (by rcases hcc with h | h | h <;> omega), if_neg (by rcases hcc with h | h | h <;> omega), if_neg (by rcases hcc with h | h | h <;> omega), if_neg (by rcases hcc with h | h | h <;> omega), if_neg hr, if_pos hc]
   refine LoopN.intro LpI (fun p => LpInv t st st (m + 2 * t.sz) m ch o (wk t ch (nmS st.sc)) p)
    (fun ⟨i, _, v⟩ => mkS Tryd.f17.ntmps 0 [(0, .c (.v (.pointer (some ⟨rb, 0, none⟩)))), (2, .c (.v (ptrO o))), (4, .c (.lp 6 0)), (6, .c (.v v)), (9, .c (.v (.int .i64 ((t.kids.length : Int) - 1)))), (10, .c (.v (.int .i64 (-1)))), (112, .c (.v (.slice t.a t.kids.length t.cap))), (113, .c (.v (.int .i64 (t.kids.length : Int)))), (114, .c (.v (.int .i64 (i : Int))))])
    (fun ⟨_, st2, _⟩ => rvE A rb st2 ++ (.blk 24 (vs (nodeC t)) :: [])) (fun ⟨i, _, _⟩ => t.kids.length - i) [] rfl (fun _ => rfl) (fun _ => rfl) (fun _ _ => okHB_eq rfl)
    ⟨⟨0, st, ptrO o⟩, ⟨Nat.zero_le _, fun _ => ⟨rfl, ?_⟩, fun h0 => ?_⟩, ?_, ?_⟩ ?_
   ·exact Went.refl (ok.mono (by show m ≤ m + 1 + 2 * 0; omega) (by show m + 1 + 2 * 0 ≤ _; omega))
   ·have : t.kids = [] := List.length_eq_zero_iff.1 h0.symm
    rw [hwk, this]
    exact Went.refl (ok.mono (by omega) hm2)
   ·(repeat' (first | exact trivial | refine And.intro (by with_reducible rfl) ?_ | (with_reducible exact wkC_refl _) | (with_reducible exact wkCs_refl _) | refine And.intro ?_ ?_))
    all_goals first | rfl | exact av_int (by rw [wrap_i64 (by omega)])
   ·(repeat (first | exact wkH_nil _ | exact trivial | refine And.intro (wkE_refl _) ?_ | refine And.intro trivial ?_))
   rintro ⟨i, st2, v⟩ ⟨hi, hlt, hend⟩
   have hi : i ≤ t.kids.length := hi
   refine wXS ?_
   refine brd_dec (fun (h1 : (i : Int) < (t.kids.length : Int)) => ?_) (fun (h1 : ¬ (i : Int) < (t.kids.length : Int)) => ?_)
   ·have hil : i < t.kids.length := by omega
    obtain ⟨k, hk⟩ : ∃ k, t.kids[i]? = some k := ⟨_, List.getElem?_eq_getElem hil⟩
    have hsa := kid_some ht hk
    have hkm := List.mem_of_getElem? hk
    obtain ⟨hv, wd⟩ := hlt hil
    obtain rfl : v = ptrO o := hv
    have hts : szs (t.kids.take (i + 1)) = szs (t.kids.take i) + k.sz := take_szs hk
    have hto := szs_take t.kids (i + 1)
    refine wXS ?_
    refine Nd.mk ⟨hsa, by omega, by omega⟩ ?_
    refine wXS ?_
    refine LdN.agg (nodeC k) rfl (fun w hw => (hA w hw.1).row) rfl (fun j hj => by rw [Int.toNat_natCast]; exact nodesC_get t.kids i j hj hk) ?_
    refine wXS ?_
    refine brd_eq (fun (h2 : (i : Int) = (t.kids.length : Int) - 1) => ?_) (fun (h2 : ¬ (i : Int) = (t.kids.length : Int) - 1) => ?_)
    ·have hi1 : i + 1 = t.kids.length := by omega
     ((conv => whnf); (repeat ((first | refine SeqN.plain ?_ | refine BoxN.own ?_ | refine VrN.norm (wrap_i64 (by omega)) ?_ | refine VrN.keep ?_ | refine DrawN.calm (by decide +kernel) ?_ | refine Nd.mk (by decide +kernel) ?_ | refine Nd.mk (by omega) ?_ | (refine Nd.mk ?_ ?_; focus ((repeat' (first | exact trivial | exact wkE_refl _ | refine And.intro ?_ ?_)); done)) | refine RdN.intro _ rfl (by rfl) ?_); (conv => whnf))))
     refine RwN.known (intC [32, 33, 34]) rfl fun lb => ?_
     ((conv => whnf); (repeat ((first | refine SeqN.plain ?_ | refine BoxN.own ?_ | refine VrN.norm (wrap_i64 (by omega)) ?_ | refine VrN.keep ?_ | refine DrawN.calm (by decide +kernel) ?_ | refine Nd.mk (by decide +kernel) ?_ | refine Nd.mk (by omega) ?_ | (refine Nd.mk ?_ ?_; focus ((repeat' (first | exact trivial | exact wkE_refl _ | refine And.intro ?_ ?_)); done)) | refine RdN.intro _ rfl (by rfl) ?_); (conv => whnf))))
     refine call1 (ContainsI_c (some ⟨lb, 0, none⟩) [32, 33, 34] 3 t.op (fun _ => rfl) (by decide) _ (fun w hw => hw.2.2.2.2.2.2.1)) ?_
     rw [show [32, 33, 34].contains t.op = true from by simpa using hc]
     refine wXS ?_
     have hom : m + 1 + 2 * szs (t.kids.take i) < 100000 := by omega
     refine callG (open_c A rb st2 wd.ok none) [0, 1, 2, 3, 4, 5] rfl ⟨rfl, rfl, rfl, rfl, rfl, rfl, trivial⟩ rfl fun j hj => ?_
     obtain ⟨b, sb, c⟩ := j
     have hgr : ScG st2.sc (opened st2 b none sb c).sc := ScG.snoc _ _
     have hnm : nmS (opened st2 b none sb c).sc = nmS st2.sc ++ [[]] := by simp [nmS, opened]
     have hat : (opened st2 b none sb c).sc[st2.sc.length]? = some ⟨b, none, 0, none, []⟩ := by simp [opened]
     have hnl : (nmS st2.sc).length = st2.sc.length := by simp [nmS]
     refine wXS ?_
     refine callG (ih k hkm (ht.kid hkm) A (fun w h => (hA w h).kid hkm) rb (opened st2 b none sb c) (m + 1 + 2 * szs (t.kids.take i) + 1) [st2.sc.length] (some b) (wd.ok.opened hom hj) (by omega) ⟨_, hat, rfl, rfl⟩ (by simp)) [0, 1, 2, 3, 4, 5] rfl ⟨rfl, rfl, rfl, rfl, rfl, rfl, trivial⟩ rfl fun st3 w3 => ?_
     refine wXS ?_
     have wo : Went st2 (opened st2 b none sb c) (m + 1 + 2 * szs (t.kids.take i) + 1) ⟨nmS (opened st2 b none sb c).sc, [], false⟩ := ⟨wd.ok.opened hom hj, hgr, rfl, (List.append_nil _).symm, (Bool.or_false _).symm⟩
     have w4 := (wd.cat wo).cat w3
     rw [WR.cat_nil] at w4
     have hw := wkc_snoc (t.kids.take i) k ch (nmS st.sc)
     rw [← take_snoc hk, hi1, List.take_length, ← hwk, ← wd.nm, ← hnm, hnl] at hw
     rw [← hw] at w4
     refine ⟨⟨i + 1, st3, ptrO (some b)⟩, ⟨by show i + 1 ≤ _; omega, fun h => absurd h (by show ¬ i + 1 < _; omega), fun _ => w4.mono (by omega) (by omega)⟩, by show t.kids.length - (i + 1) < t.kids.length - i; omega, ?_, ?_⟩
     ·exact wKK
     ·(repeat (first | exact wkH_nil _ | exact trivial | refine And.intro (wkE_refl _) ?_ | refine And.intro trivial ?_))
    ·-- not the last kid
     have hi1 : i + 1 < t.kids.length := by omega
     refine wXS ?_
     refine brd_eq (fun h3 => absurd h3 h2) (fun _ => ?_)
     refine wXS ?_
     refine callG (ih k hkm (ht.kid hkm) A (fun w h => (hA w h).kid hkm) rb st2 (m + 1 + 2 * szs (t.kids.take i)) ch o wd.ok (by omega) (hch.grow wd.g) hne) [0, 1, 2, 3, 4, 5] rfl ⟨rfl, rfl, rfl, rfl, rfl, rfl, trivial⟩ rfl fun st3 w3 => ?_
     refine wXS ?_
     refine ⟨⟨i + 1, st3, ptrO o⟩, ⟨by show i + 1 ≤ _; omega, fun _ => ⟨rfl, Went.step hk wd w3⟩, fun h => absurd h (by show ¬ i + 1 = _; omega)⟩, by show t.kids.length - (i + 1) < t.kids.length - i; omega, ?_, ?_⟩
     ·exact wKK
     ·(repeat (first | exact wkH_nil _ | exact trivial | refine And.intro (wkE_refl _) ?_ | refine And.intro trivial ?_))
   ·have hil : i = t.kids.length := by omega
    refine wXS ?_
    refine ⟨st2, hend hil, rfl, ?_⟩
    (repeat (first | exact wkH_nil _ | exact trivial | refine And.intro (wkE_refl _) ?_ | refine And.intro trivial ?_))
  have hfin : ∀ (s2 : RvS) (n : Nat), Went st1 s2 n (wks t.kids ch1 (nmS st1.sc)) → Went st s2 n (wk t ch (nmS st.sc)) := fun s2 n w => by
   obtain ⟨pls, un, q1, q2, q3⟩ := k6 hc hr
   rw [q3]
   exact ⟨w.ok, k2.trans w.g, w.nm, by rw [w.pl, q1, List.append_assoc], by rw [w.un, q2, Bool.or_assoc]⟩
  refine LoopN.intro LpI (fun p => LpInv t st st1 (m + 2 * t.sz) m ch1 o1 (wk t ch (nmS st.sc)) p)
   (fun ⟨i, _, v⟩ => mkS Tryd.f17.ntmps 0 [(0, .c (.v (.pointer (some ⟨rb, 0, none⟩)))), (2, .c (.v (ptrO o))), (4, .c (.lp 6 0)), (6, .c (.v v)), (9, .c (.v (.int .i64 ((t.kids.length : Int) - 1)))), (10, .c (.v (.int .i64 (-1)))), (112, .c (.v (.slice t.a t.kids.length t.cap))), (113, .c (.v (.int .i64 (t.kids.length : Int)))), (114, .c (.v (.int .i64 (i : Int))))])
   (fun ⟨_, st2, _⟩ => rvE A rb st2 ++ (.blk 24 (vs (nodeC t)) :: [])) (fun ⟨i, _, _⟩ => t.kids.length - i) [] rfl (fun _ => rfl) (fun _ => rfl) (fun _ _ => okHB_eq rfl)
   ⟨⟨0, st1, ptrO o1⟩, ⟨Nat.zero_le _, fun _ => ⟨rfl, ?_⟩, fun h0 => ?_⟩, ?_, ?_⟩ ?_
  ·exact Went.refl (k1.mono (Nat.le_add_right _ _) (by show m + 1 + 2 * 0 ≤ _; omega))
  ·have : t.kids = [] := List.length_eq_zero_iff.1 h0.symm
   refine hfin _ _ ?_
   rw [this]
   exact Went.refl (k1.mono (by omega) hm2)
  ·(repeat' (first | exact trivial | refine And.intro (by with_reducible rfl) ?_ | (with_reducible exact wkC_refl _) | (with_reducible exact wkCs_refl _) | refine And.intro ?_ ?_))
   all_goals first | rfl | exact av_int (by rw [wrap_i64 (by omega)])
  ·(repeat (first | exact wkH_nil _ | exact trivial | refine And.intro (wkE_refl _) ?_ | refine And.intro trivial ?_))
  rintro ⟨i, st2, v⟩ ⟨hi, hlt, hend⟩
  have hi : i ≤ t.kids.length := hi
  refine wXS ?_
  refine brd_dec (fun (h1 : (i : Int) < (t.kids.length : Int)) => ?_) (fun (h1 : ¬ (i : Int) < (t.kids.length : Int)) => ?_)
  ·have hil : i < t.kids.length := by omega
   obtain ⟨k, hk⟩ : ∃ k, t.kids[i]? = some k := ⟨_, List.getElem?_eq_getElem hil⟩
   have hsa := kid_some ht hk
   have hkm := List.mem_of_getElem? hk
   obtain ⟨hv, wd⟩ := hlt hil
   obtain rfl : v = ptrO o1 := hv
   have hts : szs (t.kids.take (i + 1)) = szs (t.kids.take i) + k.sz := take_szs hk
   have hto := szs_take t.kids (i + 1)
   refine wXS ?_
   refine Nd.mk ⟨hsa, by omega, by omega⟩ ?_
   refine wXS ?_
   refine LdN.agg (nodeC k) rfl (fun w hw => (hA w hw.1).row) rfl (fun j hj => by rw [Int.toNat_natCast]; exact nodesC_get t.kids i j hj hk) ?_
   refine wXS ?_
   refine brd_eq (fun (h2 : (i : Int) = (t.kids.length : Int) - 1) => ?_) (fun (h2 : ¬ (i : Int) = (t.kids.length : Int) - 1) => ?_)
   ·have hi1 : i + 1 = t.kids.length := by omega
    ((conv => whnf); (repeat ((first | refine SeqN.plain ?_ | refine BoxN.own ?_ | refine VrN.norm (wrap_i64 (by omega)) ?_ | refine VrN.keep ?_ | refine DrawN.calm (by decide +kernel) ?_ | refine Nd.mk (by decide +kernel) ?_ | refine Nd.mk (by omega) ?_ | (refine Nd.mk ?_ ?_; focus ((repeat' (first | exact trivial | exact wkE_refl _ | refine And.intro ?_ ?_)); done)) | refine RdN.intro _ rfl (by rfl) ?_); (conv => whnf))))
    refine RwN.known (intC [32, 33, 34]) rfl fun lb => ?_
    ((conv => whnf); (repeat ((first | refine SeqN.plain ?_ | refine BoxN.own ?_ | refine VrN.norm (wrap_i64 (by omega)) ?_ | refine VrN.keep ?_ | refine DrawN.calm (by decide +kernel) ?_ | refine Nd.mk (by decide +kernel) ?_ | refine Nd.mk (by omega) ?_ | (refine Nd.mk ?_ ?_; focus ((repeat' (first | exact trivial | exact wkE_refl _ | refine And.intro ?_ ?_)); done)) | refine RdN.intro _ rfl (by rfl) ?_); (conv => whnf))))
    refine call1 (ContainsI_c (some ⟨lb, 0, none⟩) [32, 33, 34] 3 t.op (fun _ => rfl) (by decide) _ (fun w hw => hw.2.2.2.2.2.2.1)) ?_
    rw [show [32, 33, 34].contains t.op = false from by simpa using hc]
    refine wXS ?_
    refine brd_eq (fun h3 => ?_) (fun h3 => absurd h2 h3)
    refine wXS ?_
    refine callG (ih k hkm (ht.kid hkm) A (fun w h => (hA w h).kid hkm) rb st2 (m + 1 + 2 * szs (t.kids.take i)) ch1 o1 wd.ok (by omega) (k3.grow wd.g) k4) [0, 1, 2, 3, 4, 5] rfl ⟨rfl, rfl, rfl, rfl, rfl, rfl, trivial⟩ rfl fun st3 w3 => ?_
    refine wXS ?_
    have w4 := Went.step hk wd w3
    rw [hi1, List.take_length] at w4
    refine ⟨⟨i + 1, st3, ptrO o1⟩, ⟨by show i + 1 ≤ _; omega, fun h => absurd h (by show ¬ i + 1 < _; omega), fun _ => hfin _ _ (w4.mono (by omega) (by omega))⟩, by show t.kids.length - (i + 1) < t.kids.length - i; omega, ?_, ?_⟩
    ·exact wKK
    ·(repeat (first | exact wkH_nil _ | exact trivial | refine And.intro (wkE_refl _) ?_ | refine And.intro trivial ?_))
   ·have hi1 : i + 1 < t.kids.length := by omega
    refine wXS ?_
    refine brd_eq (fun h3 => absurd h3 h2) (fun _ => ?_)
    refine wXS ?_
    refine callG (ih k hkm (ht.kid hkm) A (fun w h => (hA w h).kid hkm) rb st2 (m + 1 + 2 * szs (t.kids.take i)) ch1 o1 wd.ok (by omega) (k3.grow wd.g) k4) [0, 1, 2, 3, 4, 5] rfl ⟨rfl, rfl, rfl, rfl, rfl, rfl, trivial⟩ rfl fun st3 w3 => ?_
    refine wXS ?_
    refine ⟨⟨i + 1, st3, ptrO o1⟩, ⟨by show i + 1 ≤ _; omega, fun _ => ⟨rfl, Went.step hk wd w3⟩, fun h => absurd h (by show ¬ i + 1 = _; omega)⟩, by show t.kids.length - (i + 1) < t.kids.length - i; omega, ?_, ?_⟩
    ·exact wKK
    ·(repeat (first | exact wkH_nil _ | exact trivial | refine And.intro (wkE_refl _) ?_ | refine And.intro trivial ?_))
  ·have hil : i = t.kids.length := by omega
   refine wXS ?_
   refine ⟨st2, hend hil, rfl, ?_⟩
   (repeat (first | exact wkH_nil _ | exact trivial | refine And.intro (wkE_refl _) ?_ | refine And.intro trivial ?_))
end Go.Proofs.YtpikpjlhdkkigaaDoor
namespace Go.Proofs.YtpikpjlhdkkigaaDoor
open Go.AX Go.RowKit Go.Tree Go.Scan
set_option maxRecDepth 20000
set_option maxHeartbeats 4000000 in
theorem begin_c {n : Nat} (hx : Hx n) {s : TP} {rs es : List TP} (hs : s.sz < n) (hv : V .ex s) (ho : s.op = 26) (hr : Sm n .res rs) (he : Sm n .ens es) (h1 : es.length ≤ 1) (h2 : 1 ≤ rs.length + es.length) : YesL 69 (s :: (rs ++ es)) := fun a cap hk => by
 refine factC hm Tryd.func69 (by kernel_rfl) rfl rfl ?_
 have hsa : a.isSome = true := isT (i := 0) hk.nil rfl
 have hlen : (s :: (rs ++ es)).length = (rs ++ es).length + 1 := rfl
 have hll := hk.len
 have hcap : (rs ++ es).length + 1 ≤ cap := hk.cap
 have hle : 1 ≤ (rs ++ es).length := by rw [List.length_append]; exact h2
 have htk : LsK (tlA a cap) (cap - 1) (rs ++ es) := hk.tl
 rw [hlen] at hll ⊢
 refine wX ?_
 refine brd_dec (fun h => by omega) (fun _ => ?_)
 refine wX ?_
 refine Nd.mk ⟨hsa, by decide, by omega⟩ ?_
 refine wX ?_
 refine LdN.agg (a := a) (q := 0) (nodeC s) rfl (fun w hw => hw.1.2.1) rfl (fun j hj => nodesC_get (s :: (rs ++ es)) 0 j hj rfl) ?_
 refine wX ?_
 refine call1 (seq_c hx hs (hk.k s (List.mem_cons_self ..)) hv ho _ (fun w hw => ⟨hw.1.1, hw.1.2.2 s (List.mem_cons_self ..)⟩)) ?_
 refine wX ?_
 refine ReadW.slc_lo (e := 24) (sz := 4) 1 (rs ++ es).length (tlA a cap) rfl Tryd.underlying22 rfl rfl rfl rfl ⟨rfl, by omega, by omega⟩ (by omega) rfl ?_
 refine wX ?_
 refine loopS Nat (fun i => i ≤ (rs ++ es).length) (fun i => mkS Tryd.f69.ntmps 0 [(0, .c (.v (.slice a ((rs ++ es).length + 1) cap))), (17, .c (.v (.slice (tlA a cap) (rs ++ es).length (cap - 1)))), (18, .c (.v (.int .i64 ((rs ++ es).length : Int)))), (19, .c (.v (.int .i64 (i : Int))))]) (fun i => (rs ++ es).length - i) rfl (fun _ => rfl) 0 (Nat.zero_le _) ?_ fun i hi => ?_
 ·exact wKK
 refine wX ?_
 refine brd_dec (fun h3 => ?_) (fun h3 => ?_)
 ·obtain ⟨k, hki⟩ : ∃ k, (rs ++ es)[i]? = some k := ⟨_, List.getElem?_eq_getElem (by omega)⟩
  have hkm := List.mem_of_getElem? hki
  have hkk := htk.k k hkm
  have hta := isT htk.nil hki
  refine wX ?_
  refine Nd.mk ⟨hta, by omega, by omega⟩ ?_
  refine wX ?_
  rw [Int.toNat_natCast]
  by_cases hir : i < rs.length
  ·have hkr : k ∈ rs := by rw [List.getElem?_append_left hir] at hki; exact List.mem_of_getElem? hki
   obtain ⟨hks, hkv⟩ := hr k hkr
   cases hkv with
   | res hxn hml hqv hqo =>
    rename_i x a' c' m q
    have hlm : (m ++ [q]).length = m.length + 1 := by simp
    have hkl := hkk.len
    have hkc : (m ++ [q]).length ≤ c' := hkk.cap
    have hxl : x.length ≤ 1048576 := hkk.str
    have hmk : LsK a' c' m := by have := hkk.ls.take m.length; simpa using this
    have hma : a'.isSome = true := kid_some (t := ⟨41, x, 0, a', m ++ [q], c'⟩) (i := m.length) (k := q) hkk (by simp)
    have hin : ∀ p ∈ m ++ [q], p.sz < n := fun p hp => by
     have := sz_kid (t := (⟨41, x, 0, a', m ++ [q], c'⟩ : TP)) (k := p) hp
     omega
    have hmw : IntKind.i64.wrap (((m ++ [q]).length : Int) - 1) = ((m.length : Nat) : Int) := by
     have : (m ++ [q]).length ≤ 1048576 := hkl
     rw [wrap_i64 (by omega)]; omega
    rcases hxn with hx0 | hxn
    ·-- a Rescue; refine brd_intro (fun h => absurd hx0 (by have h : (!(x == [])) = true := h; simpa using h)) (fun _ => ?_); (first | refine wX ?_ | exact wZ): its name's way
     refine LdN.agg (a := tlA a cap) (q := i * 4) [.int .i64 41, .string (bs x), .int .i64 0, .slice a' (m ++ [q]).length c'] rfl (fun w hw => (hw.1.2.tl hcap).1) rfl (fun j hj => nodesC_get (t := ⟨41, x, 0, a', m ++ [q], c'⟩) (rs ++ es) i j hj hki) ?_
     refine wX ?_
     refine brd_intro (fun h => absurd hx0 (by have h : (!(x == [])) = true := h; simpa using h)) (fun _ => ?_); (first | refine wX ?_ | exact wZ)
     rw [hmw]
     refine wX ?_
     refine ReadW.slc_hi rfl (by kernel_rfl) rfl rfl (by omega) ?_
     rw [Int.toNat_natCast]
     refine wX ?_
     refine call1 (exprs_c hx (l := m) (fun p hp => ⟨hin p (by simp [hp]), hml p hp⟩) a' c' hmk _ (fun w hw => ⟨hw.1.1, ?_⟩)) ?_
     ·have := ((hw.1.2.tl hcap).2 _ hkm).ls.take m.length
      simpa using this
     refine wX ?_
     refine Nd.mk ⟨hma, by omega, by omega⟩ ?_
     refine wX ?_
     refine LdN.agg (a := a') (q := m.length * 4) (nodeC q) rfl (fun w hw => ((hw.1.2.tl hcap).2 _ hkm).row) rfl (fun j hj => nodesC_get (m ++ [q]) m.length j hj (by simp)) ?_
     refine wX ?_
     refine call1 (seq_c hx (hin q (by simp)) (hkk.kid (by simp)) hqv hqo _ (fun w hw => ⟨hw.1.1, ((hw.1.2.tl hcap).2 _ hkm).kid (by simp)⟩)) ?_
     refine wX ?_
     refine ⟨i + 1, by show i + 1 ≤ _; omega, by show (rs ++ es).length - (i + 1) < (rs ++ es).length - i; omega, ?_, wHH⟩
     exact wKK
    ·have hne := lo_ne hxn
     refine LdN.agg (a := tlA a cap) (q := i * 4) [.int .i64 41, .string (bs x), .int .i64 0, .slice a' (m ++ [q]).length c'] rfl (fun w hw => (hw.1.2.tl hcap).1) rfl (fun j hj => nodesC_get (t := ⟨41, x, 0, a', m ++ [q], c'⟩) (rs ++ es) i j hj hki) ?_
     refine wX ?_
     refine brd_intro (fun _ => ?_) (fun h => absurd (eq_of_beq (show (x == []) = true by have h : (!(x == [])) = false := h; simpa using h)) hne); (first | refine wX ?_ | exact wZ); refine call1 (isLocal_c x hxl hxn _ (fun w hw => hw.1.1)) ?_; (first | refine wX ?_ | exact wZ)
     rw [hmw]
     refine wX ?_
     refine ReadW.slc_hi rfl (by kernel_rfl) rfl rfl (by omega) ?_
     rw [Int.toNat_natCast]
     refine wX ?_
     refine call1 (exprs_c hx (l := m) (fun p hp => ⟨hin p (by simp [hp]), hml p hp⟩) a' c' hmk _ (fun w hw => ⟨hw.1.1, ?_⟩)) ?_
     ·have := ((hw.1.2.tl hcap).2 _ hkm).ls.take m.length
      simpa using this
     refine wX ?_
     refine Nd.mk ⟨hma, by omega, by omega⟩ ?_
     refine wX ?_
     refine LdN.agg (a := a') (q := m.length * 4) (nodeC q) rfl (fun w hw => ((hw.1.2.tl hcap).2 _ hkm).row) rfl (fun j hj => nodesC_get (m ++ [q]) m.length j hj (by simp)) ?_
     refine wX ?_
     refine call1 (seq_c hx (hin q (by simp)) (hkk.kid (by simp)) hqv hqo _ (fun w hw => ⟨hw.1.1, ((hw.1.2.tl hcap).2 _ hkm).kid (by simp)⟩)) ?_
     refine wX ?_
     refine ⟨i + 1, by show i + 1 ≤ _; omega, by show (rs ++ es).length - (i + 1) < (rs ++ es).length - i; omega, ?_, wHH⟩
     exact wKK
  ·have hie : i = rs.length := by rw [List.length_append] at h3 hi; omega
   subst hie
   have hel : es = [k] := by
    rw [List.getElem?_append_right (Nat.le_refl _), Nat.sub_self] at hki
    match es, h1, hki with
    | [p], _, hki => obtain rfl := Option.some.inj hki; rfl
   subst hel
   obtain ⟨hks, hkv⟩ := he k (List.mem_singleton.2 rfl)
   have hrl : (rs ++ [k]).length = rs.length + 1 := by simp
   rw [hrl] at hll hcap hle ⊢
   cases hkv with
   | ens hqv hqo =>
    rename_i a' c' q _
    have hqs : q.sz < n := sz_one hks
    have hma : a'.isSome = true := kid_some (i := 0) hkk rfl
    refine LdN.agg (a := tlA a cap) (q := rs.length * 4) [.int .i64 42, .string (bs []), .int .i64 0, .slice a' 1 c'] rfl (fun w hw => (hw.1.2.tl (by rw [hrl]; exact hcap)).1) rfl (fun j hj => nodesC_get (t := ⟨42, [], 0, a', [q], c'⟩) (rs ++ [⟨42, [], 0, a', [q], c'⟩]) rs.length j hj (by simp)) ?_
    refine wX ?_
    have hw2 : IntKind.i64.wrap ((rs.length : Int) + 2) = ((rs.length + 1 + 1 : Nat) : Int) := by rw [wrap_i64 (by omega)]; omega
    rw [hw2]
    refine brd_ne (fun h => absurd rfl h) (fun _ => ?_)
    refine wX ?_
    refine call1 (unnamed_c (⟨42, [], 0, a', [q], c'⟩ : TP) rfl rfl _) ?_
    refine wX ?_
    refine Nd.mk ⟨hma, by decide, by decide⟩ ?_
    refine wX ?_
    have hft : ∀ w, LsF a (s :: (rs ++ [⟨42, [], 0, a', [q], c'⟩])) w → TreeF w ⟨42, [], 0, a', [q], c'⟩ := fun w h => h.2 _ (by simp)
    refine LdN.agg (a := a') (q := 0) (nodeC q) rfl (fun w hw => (hft w hw.1.2).row) rfl (fun j hj => nodesC_get [q] 0 j hj rfl) ?_
    refine wX ?_
    refine call1 (seq_c hx hqs (hkk.kid (List.mem_singleton.2 rfl)) hqv hqo _ (fun w hw => ⟨hw.1.1, (hft w hw.1.2).kid (List.mem_singleton.2 rfl)⟩)) ?_
    refine wX ?_
    refine ⟨rs.length + 1, Nat.le_refl _, by omega, ?_, wHH⟩
    (repeat' (first | exact trivial | refine And.intro (by with_reducible rfl) ?_ | (with_reducible exact wkC_refl _) | (with_reducible exact wkCs_refl _) | refine And.intro ?_ ?_))
    all_goals first | rfl | exact av_int (by rw [wrap_i64 (by omega)]; omega) | (rw [hrl])
 ·exact wZ
end Go.Proofs.YtpikpjlhdkkigaaDoor
namespace Go.Proofs.YtpikpjlhdkkigaaDoor
open Go.AX Go.RowKit Go.Tree Go.Scan
set_option maxRecDepth 20000
theorem isPath_c : ∀ t, pathT t → TreeK t → ∀ H, (∀ w, Facts H w → TreeF w t) → SpecH Tryd.prog 64 (pvs [nodeV t]) H (Ret (.bool true) H) := by
 have h14 : ∀ t : TP, t.op = 14 → ∀ H, (∀ w, Facts H w → TreeF w t) → SpecH Tryd.prog 64 (pvs [nodeV t]) H (Ret (.bool true) H) := fun t ho => by
  refine factC hm Tryd.func64 (by kernel_rfl) rfl rfl ?_
  refine wX ?_
  refine brd_eq (fun _ => ?_) (fun h => absurd ho h)
  exact wZ
 intro t hp ht
 rcases hp with ho | ⟨ho, k, hk, hko⟩
 ·exact h14 t ho
 ·refine factC hm Tryd.func64 (by kernel_rfl) rfl rfl ?_
  have hkm : k ∈ t.kids := by rw [hk]; exact List.mem_singleton.2 rfl
  have hsa : t.a.isSome = true := kid_some (i := 0) (k := k) ht (by rw [hk]; rfl)
  have hl1 : t.kids.length = 1 := by rw [hk]; rfl
  refine wX ?_
  refine brd_eq (fun h => by omega) (fun _ => ?_)
  refine wX ?_
  refine brd_eq (fun _ => ?_) (fun h => absurd ho h)
  refine wX ?_
  refine Nd.mk ⟨hsa, by decide, by rw [hl1]; decide⟩ ?_
  refine wX ?_
  refine LdN.agg (a := t.a) (q := 0) (nodeC k) rfl (fun w hw => hw.1.row) rfl (fun j hj => nodesC_get t.kids 0 j hj (by rw [hk]; rfl)) ?_
  refine wX ?_
  refine call1 (h14 k hko _ (fun w hw => hw.1.kid hkm)) ?_
  exact wZ
def PatC (d : Bool) (t : TP) : Prop := ∀ H, (∀ w, Facts H w → ScanF w ∧ TreeF w t) → SpecH Tryd.prog 50 (pvs [nodeV t, .bool d]) H (Ret (.bool true) H)
def cstL : List Int := [4, 5, 6, 0, 1, 2, 10]
theorem cst_in {t : TP} (h : constT t) : cstL.contains t.op = true ∨ cstL.contains t.op = false ∧ pathT t := by
 unfold constT at h
 rcases h with h | h | h | h | h | h | h | h
 any_goals (left; rw [h]; rfl)
 right
 refine ⟨?_, h⟩
 rcases h with h | ⟨h, _⟩ <;> rw [h] <;> rfl
theorem patn_c (d : Bool) (ib : Nat) (k : TP) (hp : PatC d k) : ∀ H, (∀ w, Facts H w → ScanF w ∧ TreeF w k ∧ SlAt (some ⟨ib, 0, none⟩) 1 [.bool d] w) → SpecH Tryd.prog 65 (pvs [nodeV k] ++ pvs (#[.pointer (some ⟨ib, 0, none⟩)] : Array Value).toList) H (Ret (.bool false) H) := by
 refine factC (xs := [nodeV k, .pointer (some ⟨ib, 0, none⟩)]) hm Tryd.func65 (by kernel_rfl) rfl rfl ?_
 refine wX ?_
 refine LdN.one (a := some ⟨ib, 0, none⟩) (q := 0) (.bool d) rfl (fun w hw => hw.1.2.2) rfl ?_
 refine wX ?_
 refine call1 (hp _ (fun w hw => ⟨hw.1.1, hw.1.2.1⟩)) ?_
 refine wX ?_
 rfl
set_option maxHeartbeats 4000000 in
theorem pval_c {n : Nat} (hx : Hx n) (d : Bool) {a : Option Addr} {c : Nat} {k : TP} (hs : k.sz < n) (hv : V .ex k) (hc : d = true → constT k) (ht : TreeK ⟨48, [], 0, a, [k], c⟩) : PatC d ⟨48, [], 0, a, [k], c⟩ := by
 refine factC (xs := [.agg #[.int .i64 48, .string (bs []), .int .i64 0, .slice a 1 c], .bool d]) hm Tryd.func50 (by kernel_rfl) rfl rfl ?_
 have hsa : a.isSome = true := kid_some (i := 0) ht rfl
 have hkk := ht.kid (k := k) (List.mem_singleton.2 rfl)
 refine wX ?_
 refine call1 (unnamed_c (⟨48, [], 0, a, [k], c⟩ : TP) rfl rfl _) ?_
 refine wX ?_
 refine Nd.mk ⟨hsa, by decide, by decide⟩ ?_
 refine wX ?_
 refine LdN.agg (a := a) (q := 0) (nodeC k) rfl (fun w hw => hw.1.2.row) rfl (fun j hj => nodesC_get [k] 0 j hj rfl) ?_
 refine wX ?_
 refine call1 (expr_c hx hs hkk hv _ (fun w hw => ⟨hw.1.1, hw.1.2.kid (List.mem_singleton.2 rfl)⟩)) ?_
 refine wX ?_
 refine Nd.mk ⟨hsa, by decide, by decide⟩ ?_
 refine wX ?_
 refine LdN.agg (a := a) (q := 0) (nodeC k) rfl (fun w hw => hw.1.2.row) rfl (fun j hj => nodesC_get [k] 0 j hj rfl) ?_
 cases d with
 | false =>
  exact wZ
 | true =>
  refine wXR ?_
  refine RwN.known (intC cstL) rfl fun rb => ?_
  refine wXR ?_
  refine call1 (ContainsI_c (some ⟨rb, 0, none⟩) cstL 7 k.op (fun _ => rfl) (by decide) _ (fun w hw => hw.2.1)) ?_
  rcases cst_in (hc rfl) with h | ⟨h, hp⟩
  ·rw [h]
   exact wZR
  ·rw [h]
   refine wXR ?_
   refine call1 (isPath_c k hp hkk _ (fun w hw => hw.1.2.kid (List.mem_singleton.2 rfl))) ?_
   exact wZR
theorem pbind_c {x : List UInt8} {a : Option Addr} {c : Nat} (h : loB x = true) (hx : x ≠ [95]) (ht : TreeK ⟨49, x, 0, a, [], c⟩) : PatC true ⟨49, x, 0, a, [], c⟩ := by
 refine factC (xs := [.agg #[.int .i64 49, .string (bs x), .int .i64 0, .slice a 0 c], .bool true]) hm Tryd.func50 (by kernel_rfl) rfl rfl ?_
 have hxl : x.length ≤ 1048576 := ht.str
 refine wX ?_
 refine call1 (leaf_c (⟨49, x, 0, a, [], c⟩ : TP) rfl _) ?_
 refine wX ?_
 refine call1 (isLocal_c x hxl h _ (fun w hw => hw.1.1)) ?_
 refine wX ?_
 refine ret_b ?_
 have : (x == [95]) = false := by simpa using hx
 show (!(x == [95])) = true ↔ _
 rw [this]
 simp
theorem pany_c {a : Option Addr} {c : Nat} : PatC true ⟨50, [], 0, a, [], c⟩ := by
 refine factC (xs := [.agg #[.int .i64 50, .string (bs []), .int .i64 0, .slice a 0 c], .bool true]) hm Tryd.func50 (by kernel_rfl) rfl rfl ?_
 refine wX ?_
 refine call1 (bare_c (⟨50, [], 0, a, [], c⟩ : TP) rfl rfl rfl _) ?_
 exact wZ
set_option maxHeartbeats 4000000 in
theorem palt_c (d : Bool) {a : Option Addr} {c : Nat} {l : List TP} (hp : ∀ k ∈ l, PatC d k) (h2 : 2 ≤ l.length) (ht : TreeK ⟨53, [], 0, a, l, c⟩) : PatC d ⟨53, [], 0, a, l, c⟩ := by
 refine factC (xs := [.agg #[.int .i64 53, .string (bs []), .int .i64 0, .slice a l.length c], .bool d]) hm Tryd.func50 (by kernel_rfl) rfl rfl ?_
 have hll : l.length ≤ 1048576 := ht.len
 (conv => whnf)
 refine BoxN.own ?_
 (conv => whnf)
 refine BoxN.known [.bool d] rfl fun ib => ?_
 refine wX ?_
 refine call1 (unnamed_c (⟨53, [], 0, a, l, c⟩ : TP) rfl rfl _) ?_
 refine wX ?_
 refine brd_dec (fun _ => ?_) (fun h => by omega)
 refine wX ?_
 refine SpecH.args (args' := pvs [.slice a l.length c, .func (.func 65) #[] #[.pointer (some ⟨ib, 0, none⟩)]]) (by simp [pvs, opvs, opv, nth, plainEv]; try rfl) ?_
 refine call1 (NoFn_c 65 #[.pointer (some ⟨ib, 0, none⟩)] a l c (SlAt (some ⟨ib, 0, none⟩) 1 [.bool d]) ht.ls (fun k hk => patn_c d ib k (hp k hk)) _ (fun w hw => ⟨hw.1.1, hw.1.2.ls, hw.2.1⟩)) ?_
 refine wX ?_
 rfl
theorem filt_take {l : List TP} {i : Nat} {k : TP} (h : l[i]? = some k) : ((l.take (i + 1)).filter fun k => k.op == 52).length = ((l.take i).filter fun k => k.op == 52).length + (if k.op = 52 then 1 else 0) := by
 rw [List.take_add_one, h, List.filter_append, List.length_append]
 by_cases ho : k.op = 52 <;> simp [ho]
theorem filt_le (l : List TP) (i : Nat) : ((l.take i).filter fun k => k.op == 52).length ≤ (l.filter fun k => k.op == 52).length := (List.Sublist.filter _ (List.take_sublist i l)).length_le
set_option maxHeartbeats 4000000 in
theorem parr_c {a : Option Addr} {c : Nat} {l : List TP} (hp : ∀ k ∈ l, k.op ≠ 52 → PatC true k) (hr : ∀ k ∈ l, k.op = 52 → V .pre k) (h1 : (l.filter fun k => k.op == 52).length ≤ 1) (ht : TreeK ⟨51, [], 0, a, l, c⟩) : PatC true ⟨51, [], 0, a, l, c⟩ := by
 refine factC (xs := [.agg #[.int .i64 51, .string (bs []), .int .i64 0, .slice a l.length c], .bool true]) hm Tryd.func50 (by kernel_rfl) rfl rfl ?_
 have hll : l.length ≤ 1048576 := ht.len
 have hk : LsK a c l := ht.ls
 refine wX ?_
 refine loopS Nat (fun i => i ≤ l.length) (fun i => mkS Tryd.f50.ntmps 0 [(2, .c (.lp 1 0)), (3, .c (.lp 2 0)), (4, .c (.v (.bool false))), (6, .c (.v (.int .i64 (((l.take i).filter fun k => k.op == 52).length : Int)))), (89, .c (.v (.slice a l.length c))), (90, .c (.v (.int .i64 (l.length : Int)))), (91, .c (.v (.int .i64 (i : Int))))]) (fun i => l.length - i) rfl (fun _ => rfl) 0 (Nat.zero_le _) ?_ fun i hi => ?_
 ·exact wKK
 have hfl := filt_le l i
 refine wX ?_
 refine brd_dec (fun h3 => ?_) (fun h3 => ?_)
 ·obtain ⟨k, hki⟩ : ∃ k, l[i]? = some k := ⟨_, List.getElem?_eq_getElem (by omega)⟩
  have hkm := List.mem_of_getElem? hki
  have hkk := hk.k k hkm
  have hsa := isT hk.nil hki
  have hft := filt_take hki
  refine wX ?_
  refine Nd.mk ⟨hsa, by omega, by omega⟩ ?_
  refine wX ?_
  rw [Int.toNat_natCast]
  by_cases ho : k.op = 52
  ·rw [if_pos ho] at hft
   have hv := hr k hkm ho
   cases hv with
   | prest hxn =>
    rename_i x a' c'
    have hxl : x.length ≤ 1048576 := hkk.str
    refine LdN.agg (a := a) (q := i * 4) [.int .i64 52, .string (bs x), .int .i64 0, .slice a' 0 c'] rfl (fun w hw => hw.1.2.row) rfl (fun j hj => nodesC_get (t := ⟨52, x, 0, a', [], c'⟩) l i j hj hki) ?_
    refine wX ?_
    refine call1 (leaf_c (⟨52, x, 0, a', [], c'⟩ : TP) rfl _) ?_
    refine wX ?_
    rcases hxn with hx0 | hxn
    ·refine brd_intro (fun h => absurd hx0 (by have h : (!(x == [])) = true := h; simpa using h)) (fun _ => ?_)
     refine wX ?_
     refine ⟨i + 1, by show i + 1 ≤ _; omega, by show l.length - (i + 1) < l.length - i; omega, ?_, wHH⟩
     (repeat' (first | exact trivial | refine And.intro (by with_reducible rfl) ?_ | (with_reducible exact wkC_refl _) | (with_reducible exact wkCs_refl _) | refine And.intro ?_ ?_))
     all_goals first | rfl | exact av_int (by rw [wrap_i64 (by omega)]; omega) | exact av_int (by omega)
    ·have hne := lo_ne hxn
     refine brd_intro (fun _ => ?_) (fun h => absurd (eq_of_beq (show (x == []) = true by have h : (!(x == [])) = false := h; simpa using h)) hne)
     refine wX ?_
     refine call1 (isLocal_c x hxl hxn _ (fun w hw => hw.1.1)) ?_
     refine wX ?_
     refine ⟨i + 1, by show i + 1 ≤ _; omega, by show l.length - (i + 1) < l.length - i; omega, ?_, wHH⟩
     (repeat' (first | exact trivial | refine And.intro (by with_reducible rfl) ?_ | (with_reducible exact wkC_refl _) | (with_reducible exact wkCs_refl _) | refine And.intro ?_ ?_))
     all_goals first | rfl | exact av_int (by rw [wrap_i64 (by omega)]; omega) | exact av_int (by omega)
  ·rw [if_neg ho] at hft
   refine LdN.agg (a := a) (q := i * 4) (nodeC k) rfl (fun w hw => hw.1.2.row) rfl (fun j hj => nodesC_get l i j hj hki) ?_
   refine wX ?_
   refine brd_eq (fun h => absurd h ho) (fun _ => ?_)
   refine wX ?_
   refine call1 (hp k hkm ho _ (fun w hw => ⟨hw.1.1, hw.1.2.kid hkm⟩)) ?_
   refine wX ?_
   refine ⟨i + 1, by show i + 1 ≤ _; omega, by show l.length - (i + 1) < l.length - i; omega, ?_, wHH⟩
   (repeat' (first | exact trivial | refine And.intro (by with_reducible rfl) ?_ | (with_reducible exact wkC_refl _) | (with_reducible exact wkCs_refl _) | refine And.intro ?_ ?_))
   all_goals first | rfl | exact av_int (by rw [wrap_i64 (by omega)]; omega) | exact av_int (by omega)
 ·have hie : i = l.length := by omega
  rw [hie, List.take_length]
  refine wX ?_
  refine call1 (unnamed_c (⟨51, [], 0, a, l, c⟩ : TP) rfl rfl _) ?_
  refine wX ?_
  exact ret_b (by simp; omega)
set_option maxHeartbeats 4000000 in
theorem pat_c {N : Nat} (hx : Hx N) : ∀ (m : Nat) (t : TP) (d : Bool), t.sz ≤ m → t.sz ≤ N → TreeK t → V (.pat d) t → PatC d t := by
 intro m
 induction m with
 | zero => intro t d h; have := sz_pos t; omega
 | succ m ih =>
  intro t d hm hN hk hv
  have hin : ∀ k ∈ t.kids, k.sz ≤ m ∧ k.sz < N ∧ TreeK k := fun k h => by
   have := sz_kid h
   exact ⟨by omega, by omega, hk.kid h⟩
  cases hv with
  | pval0 hkv => exact pval_c hx false (hin _ (List.mem_singleton.2 rfl)).2.1 hkv (fun h => by cases h) hk
  | pval1 hkv hc => exact pval_c hx true (hin _ (List.mem_singleton.2 rfl)).2.1 hkv (fun _ => hc) hk
  | palt0 hl ho h2 => exact palt_c false (fun k h => ih k false (hin k h).1 (Nat.le_of_lt (hin k h).2.1) (hin k h).2.2 (hl k h)) h2 hk
  | palt1 hl h2 => exact palt_c true (fun k h => ih k true (hin k h).1 (Nat.le_of_lt (hin k h).2.1) (hin k h).2.2 (hl k h)) h2 hk
  | pbind h hx => exact pbind_c h hx hk
  | pany => exact pany_c
  | parr hl hr h1 => exact parr_c (fun k h ho => ih k true (hin k h).1 (Nat.le_of_lt (hin k h).2.1) (hin k h).2.2 (hl k h ho)) hr h1 hk
theorem plainn_c (k : TP) (ho : k.op = 48) : ∀ H, (∀ w, Facts H w → ScanF w ∧ TreeF w k ∧ True) → SpecH Tryd.prog 66 (pvs [nodeV k] ++ pvs (#[] : Array Value).toList) H (Ret (.bool false) H) := by
 refine factC (xs := [nodeV k]) hm Tryd.func66 (by kernel_rfl) rfl rfl ?_
 refine wX ?_
 rw [ho]
 rfl
theorem plainly_c {t : TP} (hv : V (.pat false) t) (ht : TreeK t) : ∀ H, (∀ w, Facts H w → ScanF w ∧ TreeF w t) → SpecH Tryd.prog 51 (pvs [nodeV t]) H (Ret (.bool true) H) := by
 cases hv with
 | pval0 hkv =>
  rename_i a c k
  refine factC (xs := [.agg #[.int .i64 48, .string (bs []), .int .i64 0, .slice a 1 c]]) hm Tryd.func51 (by kernel_rfl) rfl rfl ?_
  exact wZ
 | palt0 hl ho h2 =>
  rename_i a c l
  refine factC (xs := [.agg #[.int .i64 53, .string (bs []), .int .i64 0, .slice a l.length c]]) hm Tryd.func51 (by kernel_rfl) rfl rfl ?_
  refine wX ?_
  refine call1 (NoFn_c 66 #[] a l c (fun _ => True) ht.ls (fun k hk => plainn_c k (ho k hk)) _ (fun w hw => ⟨hw.1.1, hw.1.2.ls, trivial⟩)) ?_
  refine wX ?_
  rfl
def casC (z : Int) (a : Option Addr) (m c : Nat) : List Value := [.int .i64 46, .string (bs []), .int .i64 z, .slice a m c]
theorem casn_c {n : Nat} (hx : Hx n) (d : Bool) (z : Int) (hz : z = if d then 1 else 0) (nb : Nat) (a0 : Option Addr) (m0 c0 : Nat) {t : TP} (hs : t.sz < n) (hv : V (.inn d) t) (ht : TreeK t) : ∀ H, (∀ w, Facts H w → ScanF w ∧ TreeF w t ∧ SlAt (some ⟨nb, 0, none⟩) 4 (casC z a0 m0 c0) w) →
  SpecH Tryd.prog 49 (pvs [nodeV t] ++ pvs (#[.pointer (some ⟨nb, 0, none⟩)] : Array Value).toList) H (Ret (.bool false) H) := by
 have hin : ∀ k ∈ t.kids, k.sz < n ∧ TreeK k := fun k h => by
  have := sz_kid h
  exact ⟨by omega, ht.kid h⟩
 cases hv with
 | inn hp hsv hso =>
  rename_i a c p s
  refine factC (xs := [.agg #[.int .i64 47, .string (bs []), .int .i64 0, .slice a 2 c], .pointer (some ⟨nb, 0, none⟩)]) hm Tryd.func49 (by kernel_rfl) rfl rfl ?_
  have hsa : a.isSome = true := kid_some (i := 0) ht rfl
  obtain ⟨p1, p2⟩ := hin p (by simp)
  obtain ⟨s1, s2⟩ := hin s (by simp)
  cases d with
  | false =>
   obtain rfl : z = 0 := hz
   refine wX ?_
   refine LdN.one (a := some ⟨nb, 0, none⟩) (q := 2) (.int .i64 0) rfl (fun w hw => hw.1.2.2) rfl ?_
   refine wX ?_
   refine Nd.mk ⟨hsa, by decide +kernel, by decide +kernel⟩ ?_
   refine wX ?_
   refine LdN.agg (a := a) (q := 0 * 4) (nodeC p) rfl (fun w hw => hw.1.2.1.row) rfl (fun j hj => nodesC_get _ 0 j hj rfl) ?_
   refine wX ?_
   refine LdN.one (a := some ⟨nb, 0, none⟩) (q := 2) (.int .i64 0) rfl (fun w hw => hw.1.2.2) rfl ?_
   refine wX ?_
   refine callQ (pat_c hx n p false (by omega) (by omega) p2 hp _ ?_) ?_
   ·exact fun w hw => ⟨hw.1.1, hw.1.2.1.kid (by simp)⟩
   refine wX ?_
   refine Nd.mk ⟨hsa, by decide +kernel, by decide +kernel⟩ ?_
   refine wX ?_
   refine LdN.agg (a := a) (q := 1 * 4) (nodeC s) rfl (fun w hw => hw.1.2.1.row) rfl (fun j hj => nodesC_get _ 1 j hj rfl) ?_
   refine wX ?_
   refine callQ (seq_c hx s1 s2 hsv hso _ ?_) ?_
   ·exact fun w hw => ⟨hw.1.1, hw.1.2.1.kid (by simp)⟩
   refine wX ?_
   refine LdN.one (a := some ⟨nb, 0, none⟩) (q := 2) (.int .i64 0) rfl (fun w hw => hw.1.2.2) rfl ?_
   refine wX ?_
   refine Nd.mk ⟨hsa, by decide +kernel, by decide +kernel⟩ ?_
   refine wX ?_
   refine LdN.agg (a := a) (q := 0 * 4) (nodeC p) rfl (fun w hw => hw.1.2.1.row) rfl (fun j hj => nodesC_get _ 0 j hj rfl) ?_
   refine wX ?_
   refine call1 (plainly_c hp p2 _ (fun w hw => ⟨hw.1.1, hw.1.2.1.kid (by simp)⟩)) ?_
   exact wZ
  | true =>
   obtain rfl : z = 1 := hz
   refine wX ?_
   refine LdN.one (a := some ⟨nb, 0, none⟩) (q := 2) (.int .i64 1) rfl (fun w hw => hw.1.2.2) rfl ?_
   refine wX ?_
   refine Nd.mk ⟨hsa, by decide +kernel, by decide +kernel⟩ ?_
   refine wX ?_
   refine LdN.agg (a := a) (q := 0 * 4) (nodeC p) rfl (fun w hw => hw.1.2.1.row) rfl (fun j hj => nodesC_get _ 0 j hj rfl) ?_
   refine wX ?_
   refine LdN.one (a := some ⟨nb, 0, none⟩) (q := 2) (.int .i64 1) rfl (fun w hw => hw.1.2.2) rfl ?_
   refine wX ?_
   refine callQ (pat_c hx n p true (by omega) (by omega) p2 hp _ ?_) ?_
   ·exact fun w hw => ⟨hw.1.1, hw.1.2.1.kid (by simp)⟩
   refine wX ?_
   refine Nd.mk ⟨hsa, by decide +kernel, by decide +kernel⟩ ?_
   refine wX ?_
   refine LdN.agg (a := a) (q := 1 * 4) (nodeC s) rfl (fun w hw => hw.1.2.1.row) rfl (fun j hj => nodesC_get _ 1 j hj rfl) ?_
   refine wX ?_
   refine callQ (seq_c hx s1 s2 hsv hso _ ?_) ?_
   ·exact fun w hw => ⟨hw.1.1, hw.1.2.1.kid (by simp)⟩
   refine wX ?_
   refine LdN.one (a := some ⟨nb, 0, none⟩) (q := 2) (.int .i64 1) rfl (fun w hw => hw.1.2.2) rfl ?_
   exact wZ
 | ing hp hkv hsv hso =>
  rename_i a c p k s
  refine factC (xs := [.agg #[.int .i64 47, .string (bs []), .int .i64 1, .slice a 3 c], .pointer (some ⟨nb, 0, none⟩)]) hm Tryd.func49 (by kernel_rfl) rfl rfl ?_
  have hsa : a.isSome = true := kid_some (i := 0) ht rfl
  obtain ⟨p1, p2⟩ := hin p (by simp)
  obtain ⟨k1, k2⟩ := hin k (by simp)
  obtain ⟨s1, s2⟩ := hin s (by simp)
  obtain rfl : z = 1 := hz
  refine wX ?_
  refine LdN.one (a := some ⟨nb, 0, none⟩) (q := 2) (.int .i64 1) rfl (fun w hw => hw.1.2.2) rfl ?_
  refine wX ?_
  refine Nd.mk ⟨hsa, by decide +kernel, by decide +kernel⟩ ?_
  refine wX ?_
  refine LdN.agg (a := a) (q := 0 * 4) (nodeC p) rfl (fun w hw => hw.1.2.1.row) rfl (fun j hj => nodesC_get _ 0 j hj rfl) ?_
  refine wX ?_
  refine LdN.one (a := some ⟨nb, 0, none⟩) (q := 2) (.int .i64 1) rfl (fun w hw => hw.1.2.2) rfl ?_
  refine wX ?_
  refine callQ (pat_c hx n p true (by omega) (by omega) p2 hp _ ?_) ?_
  ·exact fun w hw => ⟨hw.1.1, hw.1.2.1.kid (by simp)⟩
  refine wX ?_
  refine Nd.mk ⟨hsa, by decide +kernel, by decide +kernel⟩ ?_
  refine wX ?_
  refine LdN.agg (a := a) (q := 2 * 4) (nodeC s) rfl (fun w hw => hw.1.2.1.row) rfl (fun j hj => nodesC_get _ 2 j hj rfl) ?_
  refine wX ?_
  refine callQ (seq_c hx s1 s2 hsv hso _ ?_) ?_
  ·exact fun w hw => ⟨hw.1.1, hw.1.2.1.kid (by simp)⟩
  refine wX ?_
  refine LdN.one (a := some ⟨nb, 0, none⟩) (q := 2) (.int .i64 1) rfl (fun w hw => hw.1.2.2) rfl ?_
  refine wX ?_
  refine Nd.mk ⟨hsa, by decide +kernel, by decide +kernel⟩ ?_
  refine wX ?_
  refine LdN.agg (a := a) (q := 1 * 4) (nodeC k) rfl (fun w hw => hw.1.2.1.row) rfl (fun j hj => nodesC_get _ 1 j hj rfl) ?_
  refine wX ?_
  refine call1 (expr_c hx k1 k2 hkv _ (fun w hw => ⟨hw.1.1, hw.1.2.1.kid (by simp)⟩)) ?_
  refine wX ?_
  rfl
theorem inn_op {d : Bool} {t : TP} (h : V (.inn d) t) : t.op = 47 := by cases h <;> rfl
set_option maxHeartbeats 4000000 in
theorem cases_c {n : Nat} (hx : Hx n) (d : Bool) (z : Int) (hz : z = if d then 1 else 0) {a : Option Addr} {c : Nat} {k : TP} {l e : List TP} (hk : V .ex k) (hl : ∀ k ∈ l, V (.inn d) k) (h1 : 1 ≤ l.length) (he : ∀ k ∈ e, V .els k) (h2 : e.length ≤ 1) (hs : (⟨46, [], z, a, k :: (l ++ e), c⟩ : TP).sz ≤ n) (ht : TreeK ⟨46, [], z, a, k :: (l ++ e), c⟩) :
  Yes 34 ⟨46, [], z, a, k :: (l ++ e), c⟩ := by
 have hin : ∀ p ∈ k :: (l ++ e), p.sz < n ∧ TreeK p := fun p hp => by
  have := sz_kid (t := (⟨46, [], z, a, k :: (l ++ e), c⟩ : TP)) (k := p) hp
  exact ⟨by omega, ht.kid hp⟩
 match e, h2 with
 | [], _ =>
  rw [List.append_nil] at hs ht hin ⊢
  cases d with
  | false =>
   obtain rfl : z = 0 := hz
   refine factC (xs := [.agg #[.int .i64 46, .string (bs []), .int .i64 0, .slice a (k :: (l)).length c]]) hm Tryd.func34 (by kernel_rfl) rfl rfl ?_
   have hsa : a.isSome = true := kid_some (i := 0) ht rfl
   have htl : LsK (tlA a c) (c - 1) (l) := ht.ls.tl
   have hcap : (l).length + 1 ≤ c := ht.cap
   have hlen : (l).length + 1 ≤ 1048576 := ht.len
   have hlc : (k :: (l)).length = (l).length + 1 := rfl
   have hlp : 1 ≤ (l).length := by first | exact h1 | (simp; done) | (simp; omega)
   obtain ⟨k1, k2⟩ := hin k (by simp)
   rw [hlc]
   (conv => whnf)
   refine BoxN.known (casC 0 a ((l).length + 1) c) rfl fun nb => ?_
   refine wX ?_
   refine LdN.one (a := some ⟨nb, 0, none⟩) (q := 1) (.string (bs [])) rfl (fun w hw => hw.2.1) rfl ?_
   refine wX ?_
   refine LdN.one (a := some ⟨nb, 0, none⟩) (q := 2) (.int .i64 0) rfl (fun w hw => hw.2.1) rfl ?_
   refine wX ?_
   refine LdN.one (a := some ⟨nb, 0, none⟩) (q := 2) (.int .i64 0) rfl (fun w hw => hw.2.1) rfl ?_
   refine wX ?_
   refine LdN.one (a := some ⟨nb, 0, none⟩) (q := 3) (.slice a ((l).length + 1) c) rfl (fun w hw => hw.2.1) rfl ?_
   refine wX ?_
   refine brd_dec (fun h => by omega) (fun _ => ?_)
   refine wX ?_
   refine LdN.one (a := some ⟨nb, 0, none⟩) (q := 3) (.slice a ((l).length + 1) c) rfl (fun w hw => hw.2.1) rfl ?_
   refine wX ?_
   refine Nd.mk ⟨hsa, by decide, by omega⟩ ?_
   refine wX ?_
   refine LdN.agg (a := a) (q := 0) (nodeC k) rfl (fun w hw => hw.1.2.row) rfl (fun j hj => nodesC_get (k :: (l)) 0 j hj rfl) ?_
   refine wX ?_
   refine call1 (expr_c hx k1 k2 hk _ (fun w hw => ⟨hw.1.1, hw.1.2.kid (by simp)⟩)) ?_
   refine wX ?_
   refine LdN.one (a := some ⟨nb, 0, none⟩) (q := 3) (.slice a ((l).length + 1) c) rfl (fun w hw => hw.2.1) rfl ?_
   refine wX ?_
   refine ReadW.slc_lo (e := 24) (sz := 4) 1 (l).length (tlA a c) rfl Tryd.underlying22 rfl rfl rfl rfl ⟨rfl, by omega, by omega⟩ (by omega) rfl ?_
   refine wX ?_
   have hta : (tlA a c).isSome = true := isT (i := 0) htl.nil (List.getElem?_eq_getElem (by omega))
   obtain ⟨q, hq⟩ : ∃ q, l[l.length - 1]? = some q := ⟨_, List.getElem?_eq_getElem (by omega)⟩
   have hw1 : IntKind.i64.wrap ((l.length : Int) - 1) = ((l.length - 1 : Nat) : Int) := by rw [wrap_i64 (by omega)]; omega
   rw [hw1]
   refine Nd.mk ⟨hta, by omega, by omega⟩ ?_
   refine wX ?_
   rw [Int.toNat_natCast]
   refine LdN.agg (a := tlA a c) (q := (l.length - 1) * 4) (nodeC q) rfl (fun w hw => (hw.1.2.ls.tl hcap).1) rfl (fun j hj => nodesC_get l (l.length - 1) j hj hq) ?_
   refine wX ?_
   refine brd_eq (fun h => by have := inn_op (hl q (List.mem_of_getElem? hq)); omega) (fun _ => ?_)
   refine wX ?_
   refine brd_dec (fun _ => ?_) (fun h => by omega)
   refine wX ?_
   refine SpecH.args (args' := pvs [.slice (tlA a c) l.length (c - 1), .func (.func 49) #[] #[.pointer (some ⟨nb, 0, none⟩)]]) (by simp [pvs, opvs, opv, nth, plainEv]; try rfl) ?_
   refine call1 (NoFn_c 49 #[.pointer (some ⟨nb, 0, none⟩)] (tlA a c) l (c - 1) (SlAt (some ⟨nb, 0, none⟩) 4 (casC 0 a ((l).length + 1) c)) (htl) (fun q hq => casn_c hx false 0 rfl nb a ((l).length + 1) c (hin q (by simp [hq])).1 (hl q hq) (hin q (by simp [hq])).2) _ (fun w hw => ⟨hw.1.1, hw.1.2.ls.tl hcap, hw.2.1⟩)) ?_
   refine wX ?_
   rfl
  | true =>
   obtain rfl : z = 1 := hz
   refine factC (xs := [.agg #[.int .i64 46, .string (bs []), .int .i64 1, .slice a (k :: (l)).length c]]) hm Tryd.func34 (by kernel_rfl) rfl rfl ?_
   have hsa : a.isSome = true := kid_some (i := 0) ht rfl
   have htl : LsK (tlA a c) (c - 1) (l) := ht.ls.tl
   have hcap : (l).length + 1 ≤ c := ht.cap
   have hlen : (l).length + 1 ≤ 1048576 := ht.len
   have hlc : (k :: (l)).length = (l).length + 1 := rfl
   have hlp : 1 ≤ (l).length := by first | exact h1 | (simp; done) | (simp; omega)
   obtain ⟨k1, k2⟩ := hin k (by simp)
   rw [hlc]
   (conv => whnf)
   refine BoxN.known (casC 1 a ((l).length + 1) c) rfl fun nb => ?_
   refine wX ?_
   refine LdN.one (a := some ⟨nb, 0, none⟩) (q := 1) (.string (bs [])) rfl (fun w hw => hw.2.1) rfl ?_
   refine wX ?_
   refine LdN.one (a := some ⟨nb, 0, none⟩) (q := 2) (.int .i64 1) rfl (fun w hw => hw.2.1) rfl ?_
   refine wX ?_
   refine LdN.one (a := some ⟨nb, 0, none⟩) (q := 2) (.int .i64 1) rfl (fun w hw => hw.2.1) rfl ?_
   refine wX ?_
   refine LdN.one (a := some ⟨nb, 0, none⟩) (q := 3) (.slice a ((l).length + 1) c) rfl (fun w hw => hw.2.1) rfl ?_
   refine wX ?_
   refine brd_dec (fun h => by omega) (fun _ => ?_)
   refine wX ?_
   refine LdN.one (a := some ⟨nb, 0, none⟩) (q := 3) (.slice a ((l).length + 1) c) rfl (fun w hw => hw.2.1) rfl ?_
   refine wX ?_
   refine Nd.mk ⟨hsa, by decide, by omega⟩ ?_
   refine wX ?_
   refine LdN.agg (a := a) (q := 0) (nodeC k) rfl (fun w hw => hw.1.2.row) rfl (fun j hj => nodesC_get (k :: (l)) 0 j hj rfl) ?_
   refine wX ?_
   refine call1 (expr_c hx k1 k2 hk _ (fun w hw => ⟨hw.1.1, hw.1.2.kid (by simp)⟩)) ?_
   refine wX ?_
   refine LdN.one (a := some ⟨nb, 0, none⟩) (q := 3) (.slice a ((l).length + 1) c) rfl (fun w hw => hw.2.1) rfl ?_
   refine wX ?_
   refine ReadW.slc_lo (e := 24) (sz := 4) 1 (l).length (tlA a c) rfl Tryd.underlying22 rfl rfl rfl rfl ⟨rfl, by omega, by omega⟩ (by omega) rfl ?_
   refine wX ?_
   have hta : (tlA a c).isSome = true := isT (i := 0) htl.nil (List.getElem?_eq_getElem (by omega))
   obtain ⟨q, hq⟩ : ∃ q, l[l.length - 1]? = some q := ⟨_, List.getElem?_eq_getElem (by omega)⟩
   have hw1 : IntKind.i64.wrap ((l.length : Int) - 1) = ((l.length - 1 : Nat) : Int) := by rw [wrap_i64 (by omega)]; omega
   rw [hw1]
   refine Nd.mk ⟨hta, by omega, by omega⟩ ?_
   refine wX ?_
   rw [Int.toNat_natCast]
   refine LdN.agg (a := tlA a c) (q := (l.length - 1) * 4) (nodeC q) rfl (fun w hw => (hw.1.2.ls.tl hcap).1) rfl (fun j hj => nodesC_get l (l.length - 1) j hj hq) ?_
   refine wX ?_
   refine brd_eq (fun h => by have := inn_op (hl q (List.mem_of_getElem? hq)); omega) (fun _ => ?_)
   refine wX ?_
   refine brd_dec (fun _ => ?_) (fun h => by omega)
   refine wX ?_
   refine SpecH.args (args' := pvs [.slice (tlA a c) l.length (c - 1), .func (.func 49) #[] #[.pointer (some ⟨nb, 0, none⟩)]]) (by simp [pvs, opvs, opv, nth, plainEv]; try rfl) ?_
   refine call1 (NoFn_c 49 #[.pointer (some ⟨nb, 0, none⟩)] (tlA a c) l (c - 1) (SlAt (some ⟨nb, 0, none⟩) 4 (casC 1 a ((l).length + 1) c)) (htl) (fun q hq => casn_c hx true 1 rfl nb a ((l).length + 1) c (hin q (by simp [hq])).1 (hl q hq) (hin q (by simp [hq])).2) _ (fun w hw => ⟨hw.1.1, hw.1.2.ls.tl hcap, hw.2.1⟩)) ?_
   refine wX ?_
   rfl
 | [q], _ =>
  cases d with
  | false =>
   obtain rfl : z = 0 := hz
   refine factC (xs := [.agg #[.int .i64 46, .string (bs []), .int .i64 0, .slice a (k :: (l ++ [q])).length c]]) hm Tryd.func34 (by kernel_rfl) rfl rfl ?_
   have hsa : a.isSome = true := kid_some (i := 0) ht rfl
   have htl : LsK (tlA a c) (c - 1) (l ++ [q]) := ht.ls.tl
   have hcap : (l ++ [q]).length + 1 ≤ c := ht.cap
   have hlen : (l ++ [q]).length + 1 ≤ 1048576 := ht.len
   have hlc : (k :: (l ++ [q])).length = (l ++ [q]).length + 1 := rfl
   have hlp : 1 ≤ (l ++ [q]).length := by first | exact h1 | (simp; done) | (simp; omega)
   obtain ⟨k1, k2⟩ := hin k (by simp)
   rw [hlc]
   (conv => whnf)
   refine BoxN.known (casC 0 a ((l ++ [q]).length + 1) c) rfl fun nb => ?_
   refine wX ?_
   refine LdN.one (a := some ⟨nb, 0, none⟩) (q := 1) (.string (bs [])) rfl (fun w hw => hw.2.1) rfl ?_
   refine wX ?_
   refine LdN.one (a := some ⟨nb, 0, none⟩) (q := 2) (.int .i64 0) rfl (fun w hw => hw.2.1) rfl ?_
   refine wX ?_
   refine LdN.one (a := some ⟨nb, 0, none⟩) (q := 2) (.int .i64 0) rfl (fun w hw => hw.2.1) rfl ?_
   refine wX ?_
   refine LdN.one (a := some ⟨nb, 0, none⟩) (q := 3) (.slice a ((l ++ [q]).length + 1) c) rfl (fun w hw => hw.2.1) rfl ?_
   refine wX ?_
   refine brd_dec (fun h => by omega) (fun _ => ?_)
   refine wX ?_
   refine LdN.one (a := some ⟨nb, 0, none⟩) (q := 3) (.slice a ((l ++ [q]).length + 1) c) rfl (fun w hw => hw.2.1) rfl ?_
   refine wX ?_
   refine Nd.mk ⟨hsa, by decide, by omega⟩ ?_
   refine wX ?_
   refine LdN.agg (a := a) (q := 0) (nodeC k) rfl (fun w hw => hw.1.2.row) rfl (fun j hj => nodesC_get (k :: (l ++ [q])) 0 j hj rfl) ?_
   refine wX ?_
   refine call1 (expr_c hx k1 k2 hk _ (fun w hw => ⟨hw.1.1, hw.1.2.kid (by simp)⟩)) ?_
   refine wX ?_
   refine LdN.one (a := some ⟨nb, 0, none⟩) (q := 3) (.slice a ((l ++ [q]).length + 1) c) rfl (fun w hw => hw.2.1) rfl ?_
   refine wX ?_
   refine ReadW.slc_lo (e := 24) (sz := 4) 1 (l ++ [q]).length (tlA a c) rfl Tryd.underlying22 rfl rfl rfl rfl ⟨rfl, by omega, by omega⟩ (by omega) rfl ?_
   refine wX ?_
   have hta : (tlA a c).isSome = true := isT (i := 0) htl.nil (List.getElem?_eq_getElem (by omega))
   have hml : (l ++ [q]).length = l.length + 1 := by simp
   have hw1 : IntKind.i64.wrap (((l ++ [q]).length : Int) - 1) = ((l.length : Nat) : Int) := by rw [hml, wrap_i64 (by omega)]; omega
   rw [hw1]
   refine Nd.mk ⟨hta, by omega, by omega⟩ ?_
   refine wX ?_
   rw [Int.toNat_natCast]
   cases he q (List.mem_singleton.2 rfl) with
   | els hsv hso =>
    rename_i a' c' s _ _
    have hq := hin ⟨55, [], 0, a', [s], c'⟩ (by simp)
    have hma : a'.isSome = true := kid_some (i := 0) hq.2 rfl
    refine LdN.agg (a := tlA a c) (q := l.length * 4) [.int .i64 55, .string (bs []), .int .i64 0, .slice a' 1 c'] rfl (fun w hw => (hw.1.2.ls.tl hcap).1) rfl (fun j hj => nodesC_get (t := ⟨55, [], 0, a', [s], c'⟩) (l ++ [⟨55, [], 0, a', [s], c'⟩]) l.length j hj (by simp)) ?_
    refine wX ?_
    refine call1 (unnamed_c (⟨55, [], 0, a', [s], c'⟩ : TP) rfl rfl _) ?_
    refine wX ?_
    refine Nd.mk ⟨hma, by decide, by decide⟩ ?_
    refine wX ?_
    have hft : ∀ w, TreeF w ⟨46, [], 0, a, k :: (l ++ [⟨55, [], 0, a', [s], c'⟩]), c⟩ → TreeF w ⟨55, [], 0, a', [s], c'⟩ := fun w h => h.kid (by simp)
    refine LdN.agg (a := a') (q := 0) (nodeC s) rfl (fun w hw => (hft w hw.1.2).row) rfl (fun j hj => nodesC_get [s] 0 j hj rfl) ?_
    refine wX ?_
    refine call1 (seq_c hx (sz_one hq.1) (hq.2.kid (List.mem_singleton.2 rfl)) hsv hso _ (fun w hw => ⟨hw.1.1, (hft w hw.1.2).kid (List.mem_singleton.2 rfl)⟩)) ?_
    refine wX ?_
    refine ReadW.slc_hi rfl (by kernel_rfl) rfl rfl (by rw [hw1]; omega) ?_
    rw [hw1, Int.toNat_natCast]
    refine wX ?_
    have htk : LsK (tlA a c) (c - 1) l := by have := htl.take l.length; rwa [List.take_left] at this
    refine brd_dec (fun _ => ?_) (fun h => by omega)
    refine wX ?_
    refine SpecH.args (args' := pvs [.slice (tlA a c) l.length (c - 1), .func (.func 49) #[] #[.pointer (some ⟨nb, 0, none⟩)]]) (by simp [pvs, opvs, opv, nth, plainEv]; try rfl) ?_
    refine call1 (NoFn_c 49 #[.pointer (some ⟨nb, 0, none⟩)] (tlA a c) l (c - 1) (SlAt (some ⟨nb, 0, none⟩) 4 (casC 0 a ((l ++ [(⟨55, [], 0, a', [s], c'⟩ : TP)]).length + 1) c)) (htk) (fun q hq => casn_c hx false 0 rfl nb a ((l ++ [(⟨55, [], 0, a', [s], c'⟩ : TP)]).length + 1) c (hin q (by simp [hq])).1 (hl q hq) (hin q (by simp [hq])).2) _ (fun w hw => ⟨hw.1.1, by have := (hw.1.2.ls.tl hcap).take l.length; rwa [List.take_left] at this, hw.2.1⟩)) ?_
    refine wX ?_
    rfl
  | true =>
   obtain rfl : z = 1 := hz
   refine factC (xs := [.agg #[.int .i64 46, .string (bs []), .int .i64 1, .slice a (k :: (l ++ [q])).length c]]) hm Tryd.func34 (by kernel_rfl) rfl rfl ?_
   have hsa : a.isSome = true := kid_some (i := 0) ht rfl
   have htl : LsK (tlA a c) (c - 1) (l ++ [q]) := ht.ls.tl
   have hcap : (l ++ [q]).length + 1 ≤ c := ht.cap
   have hlen : (l ++ [q]).length + 1 ≤ 1048576 := ht.len
   have hlc : (k :: (l ++ [q])).length = (l ++ [q]).length + 1 := rfl
   have hlp : 1 ≤ (l ++ [q]).length := by first | exact h1 | (simp; done) | (simp; omega)
   obtain ⟨k1, k2⟩ := hin k (by simp)
   rw [hlc]
   (conv => whnf)
   refine BoxN.known (casC 1 a ((l ++ [q]).length + 1) c) rfl fun nb => ?_
   refine wX ?_
   refine LdN.one (a := some ⟨nb, 0, none⟩) (q := 1) (.string (bs [])) rfl (fun w hw => hw.2.1) rfl ?_
   refine wX ?_
   refine LdN.one (a := some ⟨nb, 0, none⟩) (q := 2) (.int .i64 1) rfl (fun w hw => hw.2.1) rfl ?_
   refine wX ?_
   refine LdN.one (a := some ⟨nb, 0, none⟩) (q := 2) (.int .i64 1) rfl (fun w hw => hw.2.1) rfl ?_
   refine wX ?_
   refine LdN.one (a := some ⟨nb, 0, none⟩) (q := 3) (.slice a ((l ++ [q]).length + 1) c) rfl (fun w hw => hw.2.1) rfl ?_
   refine wX ?_
   refine brd_dec (fun h => by omega) (fun _ => ?_)
   refine wX ?_
   refine LdN.one (a := some ⟨nb, 0, none⟩) (q := 3) (.slice a ((l ++ [q]).length + 1) c) rfl (fun w hw => hw.2.1) rfl ?_
   refine wX ?_
   refine Nd.mk ⟨hsa, by decide, by omega⟩ ?_
   refine wX ?_
   refine LdN.agg (a := a) (q := 0) (nodeC k) rfl (fun w hw => hw.1.2.row) rfl (fun j hj => nodesC_get (k :: (l ++ [q])) 0 j hj rfl) ?_
   refine wX ?_
   refine call1 (expr_c hx k1 k2 hk _ (fun w hw => ⟨hw.1.1, hw.1.2.kid (by simp)⟩)) ?_
   refine wX ?_
   refine LdN.one (a := some ⟨nb, 0, none⟩) (q := 3) (.slice a ((l ++ [q]).length + 1) c) rfl (fun w hw => hw.2.1) rfl ?_
   refine wX ?_
   refine ReadW.slc_lo (e := 24) (sz := 4) 1 (l ++ [q]).length (tlA a c) rfl Tryd.underlying22 rfl rfl rfl rfl ⟨rfl, by omega, by omega⟩ (by omega) rfl ?_
   refine wX ?_
   have hta : (tlA a c).isSome = true := isT (i := 0) htl.nil (List.getElem?_eq_getElem (by omega))
   have hml : (l ++ [q]).length = l.length + 1 := by simp
   have hw1 : IntKind.i64.wrap (((l ++ [q]).length : Int) - 1) = ((l.length : Nat) : Int) := by rw [hml, wrap_i64 (by omega)]; omega
   rw [hw1]
   refine Nd.mk ⟨hta, by omega, by omega⟩ ?_
   refine wX ?_
   rw [Int.toNat_natCast]
   cases he q (List.mem_singleton.2 rfl) with
   | els hsv hso =>
    rename_i a' c' s _ _
    have hq := hin ⟨55, [], 0, a', [s], c'⟩ (by simp)
    have hma : a'.isSome = true := kid_some (i := 0) hq.2 rfl
    refine LdN.agg (a := tlA a c) (q := l.length * 4) [.int .i64 55, .string (bs []), .int .i64 0, .slice a' 1 c'] rfl (fun w hw => (hw.1.2.ls.tl hcap).1) rfl (fun j hj => nodesC_get (t := ⟨55, [], 0, a', [s], c'⟩) (l ++ [⟨55, [], 0, a', [s], c'⟩]) l.length j hj (by simp)) ?_
    refine wX ?_
    refine call1 (unnamed_c (⟨55, [], 0, a', [s], c'⟩ : TP) rfl rfl _) ?_
    refine wX ?_
    refine Nd.mk ⟨hma, by decide, by decide⟩ ?_
    refine wX ?_
    have hft : ∀ w, TreeF w ⟨46, [], 1, a, k :: (l ++ [⟨55, [], 0, a', [s], c'⟩]), c⟩ → TreeF w ⟨55, [], 0, a', [s], c'⟩ := fun w h => h.kid (by simp)
    refine LdN.agg (a := a') (q := 0) (nodeC s) rfl (fun w hw => (hft w hw.1.2).row) rfl (fun j hj => nodesC_get [s] 0 j hj rfl) ?_
    refine wX ?_
    refine call1 (seq_c hx (sz_one hq.1) (hq.2.kid (List.mem_singleton.2 rfl)) hsv hso _ (fun w hw => ⟨hw.1.1, (hft w hw.1.2).kid (List.mem_singleton.2 rfl)⟩)) ?_
    refine wX ?_
    refine ReadW.slc_hi rfl (by kernel_rfl) rfl rfl (by rw [hw1]; omega) ?_
    rw [hw1, Int.toNat_natCast]
    refine wX ?_
    have htk : LsK (tlA a c) (c - 1) l := by have := htl.take l.length; rwa [List.take_left] at this
    refine brd_dec (fun _ => ?_) (fun h => by omega)
    refine wX ?_
    refine SpecH.args (args' := pvs [.slice (tlA a c) l.length (c - 1), .func (.func 49) #[] #[.pointer (some ⟨nb, 0, none⟩)]]) (by simp [pvs, opvs, opv, nth, plainEv]; try rfl) ?_
    refine call1 (NoFn_c 49 #[.pointer (some ⟨nb, 0, none⟩)] (tlA a c) l (c - 1) (SlAt (some ⟨nb, 0, none⟩) 4 (casC 1 a ((l ++ [(⟨55, [], 0, a', [s], c'⟩ : TP)]).length + 1) c)) (htk) (fun q hq => casn_c hx true 1 rfl nb a ((l ++ [(⟨55, [], 0, a', [s], c'⟩ : TP)]).length + 1) c (hin q (by simp [hq])).1 (hl q hq) (hin q (by simp [hq])).2) _ (fun w hw => ⟨hw.1.1, by have := (hw.1.2.ls.tl hcap).take l.length; rwa [List.take_left] at this, hw.2.1⟩)) ?_
    refine wX ?_
    rfl
def vOp (o : Int) : Bool := [0, 1, 2, 3, 39, 4, 5, 17, 32, 35, 46].contains o
def nOp (o : Int) : Bool := [6, 10, 11, 12, 13, 14, 15, 16, 18, 33, 43, 44].contains o
theorem valid_nm {t : TP} (ho : vOp t.op = false) (hn : t.n = 0) (h : Yes 35 t) : Yes 21 t := by
 obtain ⟨o, x, n, a, ks, c⟩ := t
 simp only at ho hn
 subst hn
 simp [vOp] at ho
 refine factC (xs := [.agg #[.int .i64 o, .string (bs x), .int .i64 0, .slice a ks.length c]]) hm Tryd.func21 (by kernel_rfl) rfl rfl ?_
 refine wX ?_
 repeat (refine brd_eq (fun h => absurd h (by omega)) (fun _ => ?_); (first | refine wX ?_ | exact wZ))
 refine call1 (h _ (fun w hw => hw.1)) ?_
 exact wZ
theorem named_ot {t : TP} (ho : nOp t.op = false) (hx : t.name = []) (h : Yes 55 t) : Yes 35 t := by
 obtain ⟨o, x, n, a, ks, c⟩ := t
 simp only at ho hx
 subst hx
 simp [nOp] at ho
 refine factC (xs := [.agg #[.int .i64 o, .string (bs []), .int .i64 n, .slice a ks.length c]]) hm Tryd.func35 (by kernel_rfl) rfl rfl ?_
 refine wX ?_
 repeat (refine brd_eq (fun h => absurd h (by omega)) (fun _ => ?_); (first | refine wX ?_ | exact wZ))
 refine call1 (h _ (fun w hw => hw.1)) ?_
 exact wZ
set_option maxHeartbeats 4000000 in
theorem valid_ot {t : TP} (hv : vOp t.op = false) (ho : nOp t.op = false) (hn : t.n = 0) (hx : t.name = []) (h : Yes 55 t) : Yes 21 t := valid_nm hv hn (named_ot ho hx h)
set_option maxHeartbeats 4000000 in
theorem valid_c : ∀ N, Hx N := by
 intro N
 induction N with
 | zero => intro t h; omega
 | succ N ih =>
  intro t hs hk hv
  have hN : t.sz ≤ N := by omega
  have hin : ∀ k ∈ t.kids, k.sz < N ∧ TreeK k := fun k h => by
   have := sz_kid h
   exact ⟨by omega, hk.kid h⟩
  have hls := hk.ls
  have hxl := hk.str
  cases hv with
  | bare h =>
   rename_i o a c
   have hb := bare_c (⟨o, [], 0, a, [], c⟩ : TP) rfl rfl rfl
   rcases h with rfl | rfl | rfl | rfl | rfl
   ·-- a node's kind, name, number, length of kids: 0 [] 0 0
    refine factC (xs := [.agg #[.int .i64 0, .string (bs []), .int .i64 0, .slice a 0 c]]) hm Tryd.func21 (by kernel_rfl) rfl rfl ?_
    refine wX ?_
    refine call1 (hb _) ?_
    exact wZ
   ·-- a node's kind, name, number, length of kids: 1 [] 0 0
    refine factC (xs := [.agg #[.int .i64 1, .string (bs []), .int .i64 0, .slice a 0 c]]) hm Tryd.func21 (by kernel_rfl) rfl rfl ?_
    refine wX ?_
    refine call1 (hb _) ?_
    exact wZ
   ·-- a node's kind, name, number, length of kids: 2 [] 0 0
    refine factC (xs := [.agg #[.int .i64 2, .string (bs []), .int .i64 0, .slice a 0 c]]) hm Tryd.func21 (by kernel_rfl) rfl rfl ?_
    refine wX ?_
    refine call1 (hb _) ?_
    exact wZ
   ·-- a node's kind, name, number, length of kids: 3 [] 0 0
    refine factC (xs := [.agg #[.int .i64 3, .string (bs []), .int .i64 0, .slice a 0 c]]) hm Tryd.func21 (by kernel_rfl) rfl rfl ?_
    refine wX ?_
    refine call1 (hb _) ?_
    exact wZ
   ·-- a node's kind, name, number, length of kids: 39 [] 0 0
    refine factC (xs := [.agg #[.int .i64 39, .string (bs []), .int .i64 0, .slice a 0 c]]) hm Tryd.func21 (by kernel_rfl) rfl rfl ?_
    refine wX ?_
    refine call1 (hb _) ?_
    exact wZ
  | int h =>
   rename_i n a c
   refine factC (xs := [.agg #[.int .i64 4, .string (bs []), .int .i64 n, .slice a 0 c]]) hm Tryd.func21 (by kernel_rfl) rfl rfl ?_
   refine wX ?_
   refine call1 (leaf_c (⟨4, [], n, a, [], c⟩ : TP) rfl _) ?_
   refine wX ?_
   rw [show decide (n ≥ -1000000000000000) = true by simpa using h.1]
   refine wX ?_
   rw [show decide (n ≤ 1000000000000000) = true by simpa using h.2]
  | str h =>
   rename_i x a c
   refine factC (xs := [.agg #[.int .i64 5, .string (bs x), .int .i64 0, .slice a 0 c]]) hm Tryd.func21 (by kernel_rfl) rfl rfl ?_
   refine wX ?_
   refine call1 (leaf_c (⟨5, x, 0, a, [], c⟩ : TP) rfl _) ?_
   refine wX ?_
   exact ret_b (by rw [bs_size]; simp; omega)
  | sym h =>
   rename_i x a c
   refine valid_nm rfl rfl ?_
   have hxl : x.length ≤ 1048576 := hxl
   refine factC (xs := [.agg #[.int .i64 6, .string (bs x), .int .i64 0, .slice a 0 c]]) hm Tryd.func35 (by kernel_rfl) rfl rfl ?_
   refine wX ?_
   refine call1 (leaf_c (⟨6, x, 0, a, [], c⟩ : TP) rfl _) ?_
   refine wX ?_
   refine call1 (IsMethod_c x (by omega) _ (fun w hw => hw.1.1)) ?_
   rw [show (opL.contains x || inB x || setB x) = meB x from rfl]
   cases h1 : meB x with
   | true =>
    exact wZ
   | false =>
    refine wX ?_
    refine call1 (IsConst_c x (by omega) _) ?_
    cases h2 : icB x with
    | true =>
     exact wZ
    | false =>
     refine wX ?_
     refine call1 (IsIvar_c x (by omega) _) ?_
     have h3 : iiB x = true := by
      rcases h with h | h | h
      ·rw [h1] at h; cases h
      ·rw [h2] at h; cases h
      ·exact h
     rw [h3]
     exact wZ
  | dstr1 h ho =>
   rename_i a c s
   refine valid_ot rfl rfl rfl rfl ?_
   refine factC (xs := [.agg #[.int .i64 7, .string (bs []), .int .i64 0, .slice a 1 c]]) hm Tryd.func55 (by kernel_rfl) rfl rfl ?_
   refine wX ?_
   refine call1 (dstr1_c ih (hin _ (by simp)).1 h ho a c hls _ (fun w hw => ⟨hw.1.1, hw.1.2.ls⟩)) ?_
   exact wZ
  | dstr3 h ho hx hy =>
   rename_i a c s x y ax ay cx cy
   refine valid_ot rfl rfl rfl rfl ?_
   refine factC (xs := [.agg #[.int .i64 7, .string (bs []), .int .i64 0, .slice a 3 c]]) hm Tryd.func55 (by kernel_rfl) rfl rfl ?_
   refine wX ?_
   refine call1 (dstr3_c ih (fun k hk => (hin k hk).1) h ho hx hy a c hls _ (fun w hw => ⟨hw.1.1, hw.1.2.ls⟩)) ?_
   exact wZ
  | args ho h =>
   rename_i o a c l
   have hl : Sm N .arg l := fun k hk => ⟨(hin k hk).1, h k hk⟩
   rcases ho with rfl | rfl
   ·refine valid_ot rfl rfl rfl rfl ?_
    refine factC (xs := [.agg #[.int .i64 8, .string (bs []), .int .i64 0, .slice a l.length c]]) hm Tryd.func55 (by kernel_rfl) rfl rfl ?_
    refine wX ?_
    refine call1 (args_c ih hl a c hls _ (fun w hw => ⟨hw.1.1, hw.1.2.ls⟩)) ?_
    exact wZ
   ·refine valid_ot rfl rfl rfl rfl ?_
    refine factC (xs := [.agg #[.int .i64 21, .string (bs []), .int .i64 0, .slice a l.length c]]) hm Tryd.func55 (by kernel_rfl) rfl rfl ?_
    refine wX ?_
    refine call1 (args_c ih hl a c hls _ (fun w hw => ⟨hw.1.1, hw.1.2.ls⟩)) ?_
    exact wZ
  | hash h2 h =>
   rename_i a c l
   have hl : Sm N .ex l := fun k hk => ⟨(hin k hk).1, h k hk⟩
   refine valid_ot rfl rfl rfl rfl ?_
   have hmd : ((l.length : Int).tmod 2 == 0) = true := by
    rw [Int.tmod_eq_emod_of_nonneg (by omega)]
    simp
    omega
   refine factC (xs := [.agg #[.int .i64 9, .string (bs []), .int .i64 0, .slice a l.length c]]) hm Tryd.func55 (by kernel_rfl) rfl rfl ?_
   refine wX ?_
   rw [hmd]
   refine wX ?_
   refine call1 (exprs_c ih hl a c hls _ (fun w hw => ⟨hw.1.1, hw.1.2.ls⟩)) ?_
   exact wZ
  | loc h =>
   rename_i x a c
   refine valid_nm rfl rfl ?_
   refine factC (xs := [.agg #[.int .i64 10, .string (bs x), .int .i64 0, .slice a 0 c]]) hm Tryd.func35 (by kernel_rfl) rfl rfl ?_
   refine wX ?_
   refine call1 (leaf_c (⟨10, x, 0, a, [], c⟩ : TP) rfl _) ?_
   refine wX ?_
   refine call1 (isLocal_c x hxl h _ (fun w hw => hw.1.1)) ?_
   exact wZ
  | setl h hkv =>
   rename_i x a c k
   refine valid_nm rfl rfl ?_
   refine factC (xs := [.agg #[.int .i64 11, .string (bs x), .int .i64 0, .slice a 1 c]]) hm Tryd.func35 (by kernel_rfl) rfl rfl ?_
   refine wX ?_
   refine call1 (isLocal_c x hxl h _ (fun w hw => hw.1.1)) ?_
   refine wX ?_
   refine call1 (shaped_c ih [101] ([k]) (⟨⟨(hin k (by simp)).1, hkv, .inl rfl⟩, trivial⟩) (by decide) a c hls _ (fun w hw => ⟨hw.1.1, hw.1.2.ls⟩)) ?_
   exact wZ
  | ivar h =>
   rename_i x a c
   refine valid_nm rfl rfl ?_
   have hxl : x.length ≤ 1048576 := hxl
   refine factC (xs := [.agg #[.int .i64 12, .string (bs x), .int .i64 0, .slice a 0 c]]) hm Tryd.func35 (by kernel_rfl) rfl rfl ?_
   refine wX ?_
   refine call1 (leaf_c (⟨12, x, 0, a, [], c⟩ : TP) rfl _) ?_
   refine wX ?_
   refine call1 (IsIvar_c x (by omega) _) ?_
   rw [h]
   exact wZ
  | seti h hkv =>
   rename_i x a c k
   refine valid_nm rfl rfl ?_
   have hxl : x.length ≤ 1048576 := hxl
   refine factC (xs := [.agg #[.int .i64 13, .string (bs x), .int .i64 0, .slice a 1 c]]) hm Tryd.func35 (by kernel_rfl) rfl rfl ?_
   refine wX ?_
   refine call1 (IsIvar_c x (by omega) _) ?_
   rw [h]
   refine wX ?_
   refine call1 (shaped_c ih [101] ([k]) (⟨⟨(hin k (by simp)).1, hkv, .inl rfl⟩, trivial⟩) (by decide) a c hls _ (fun w hw => ⟨hw.1.1, hw.1.2.ls⟩)) ?_
   exact wZ
  | const h =>
   rename_i x a c
   refine valid_nm rfl rfl ?_
   have hxl : x.length ≤ 1048576 := hxl
   refine factC (xs := [.agg #[.int .i64 14, .string (bs x), .int .i64 0, .slice a 0 c]]) hm Tryd.func35 (by kernel_rfl) rfl rfl ?_
   refine wX ?_
   refine call1 (leaf_c (⟨14, x, 0, a, [], c⟩ : TP) rfl _) ?_
   refine wX ?_
   refine call1 (IsConst_c x (by omega) _) ?_
   rw [h]
   exact wZ
  | scope ho h hkv =>
   rename_i o x a c k
   have hxl : x.length ≤ 1048576 := hxl
   rcases ho with rfl | rfl
   ·refine valid_nm rfl rfl ?_
    refine factC (xs := [.agg #[.int .i64 15, .string (bs x), .int .i64 0, .slice a 1 c]]) hm Tryd.func35 (by kernel_rfl) rfl rfl ?_
    refine wX ?_
    refine call1 (IsConst_c x (by omega) _) ?_
    rw [h]
    refine wX ?_
    refine call1 (shaped_c ih [101] ([k]) (⟨⟨(hin k (by simp)).1, hkv, .inl rfl⟩, trivial⟩) (by decide) a c hls _ (fun w hw => ⟨hw.1.1, hw.1.2.ls⟩)) ?_
    exact wZ
   ·refine valid_nm rfl rfl ?_
    refine factC (xs := [.agg #[.int .i64 16, .string (bs x), .int .i64 0, .slice a 1 c]]) hm Tryd.func35 (by kernel_rfl) rfl rfl ?_
    refine wX ?_
    refine call1 (IsConst_c x (by omega) _) ?_
    rw [h]
    refine wX ?_
    refine call1 (shaped_c ih [101] ([k]) (⟨⟨(hin k (by simp)).1, hkv, .inl rfl⟩, trivial⟩) (by decide) a c hls _ (fun w hw => ⟨hw.1.1, hw.1.2.ls⟩)) ?_
    exact wZ
  | cop h hkv hl h1 h2 h3 =>
   rename_i x a c k l
   refine factC (xs := [.agg #[.int .i64 17, .string (bs x), .int .i64 0, .slice a (k :: l).length c]]) hm Tryd.func21 (by kernel_rfl) rfl rfl ?_
   refine wX ?_
   refine call1 (callop_c ih h hkv hl h1 h2 h3 hN hk _ (fun w hw => hw.1)) ?_
   exact wZ
  | cset h ho he hkv hq =>
   rename_i x a c k q
   refine factC (xs := [.agg #[.int .i64 17, .string (bs x), .int .i64 0, .slice a 2 c]]) hm Tryd.func21 (by kernel_rfl) rfl rfl ?_
   refine wX ?_
   refine call1 (callset_c ih h ho he hkv hq hN hk _ (fun w hw => hw.1)) ?_
   exact wZ
  | call h ho he hn hkv hl hb h1 =>
   rename_i x n a c k l b
   refine factC (xs := [.agg #[.int .i64 17, .string (bs x), .int .i64 n, .slice a (k :: (l ++ b)).length c]]) hm Tryd.func21 (by kernel_rfl) rfl rfl ?_
   refine wX ?_
   refine call1 (callx_c ih h ho he hn hkv hl hb h1 hN hk _ (fun w hw => hw.1)) ?_
   exact wZ
  | fcall h hl hb h1 =>
   rename_i x a c l b
   have hxl : x.length ≤ 1048576 := hxl
   refine valid_nm rfl rfl ?_
   refine factC (xs := [.agg #[.int .i64 18, .string (bs x), .int .i64 0, .slice a (l ++ b).length c]]) hm Tryd.func35 (by kernel_rfl) rfl rfl ?_
   refine wX ?_
   refine call1 (IsName_c x (by omega) _ (fun w hw => hw.1.1)) ?_
   rw [show (inB x && !kwB x) = true from h]
   refine wX ?_
   refine call1 (called_c ih (l := l) (b := b) (fun k hk => ⟨(hin k (by simp [hk])).1, hl k hk⟩) (fun k hk => ⟨(hin k (by simp [hk])).1, hb k hk⟩) h1 a c hls _ (fun w hw => ⟨hw.1.1, hw.1.2.ls⟩)) ?_
   exact wZ
  | super hl hb h1 =>
   rename_i a c l b
   refine valid_ot rfl rfl rfl rfl ?_
   refine factC (xs := [.agg #[.int .i64 19, .string (bs []), .int .i64 0, .slice a (l ++ b).length c]]) hm Tryd.func55 (by kernel_rfl) rfl rfl ?_
   refine wX ?_
   refine call1 (called_c ih (l := l) (b := b) (fun k hk => ⟨(hin k (by simp [hk])).1, hl k hk⟩) (fun k hk => ⟨(hin k (by simp [hk])).1, hb k hk⟩) h1 a c hls _ (fun w hw => ⟨hw.1.1, hw.1.2.ls⟩)) ?_
   exact wZ
  | zsup =>
   rename_i a c
   refine valid_ot rfl rfl rfl rfl ?_
   refine factC (xs := [.agg #[.int .i64 20, .string (bs []), .int .i64 0, .slice a 0 c]]) hm Tryd.func55 (by kernel_rfl) rfl rfl ?_
   refine wX ?_
   refine call1 (cut_c ih (l := []) (b := []) (fun k hk => by cases hk) (fun k hk => by cases hk) (by decide) a c hls _ (fun w hw => ⟨hw.1.1, hw.1.2.ls⟩)) ?_
   refine wX ?_
   refine call1 (leaf_c (⟨20, [], 0, a, [], c⟩ : TP) rfl _) ?_
   exact wZ
  | lam hl hp hsv hso =>
   rename_i a c l s
   refine valid_ot rfl rfl rfl rfl ?_
   refine factC (xs := [.agg #[.int .i64 25, .string (bs []), .int .i64 0, .slice a (l ++ [s]).length c]]) hm Tryd.func55 (by kernel_rfl) rfl rfl ?_
   refine wX ?_
   refine call1 (body_c ih (l := l) (s := s) (fun k hk => ⟨(hin k (by simp [hk])).1, hl k hk⟩) hp (hin s (by simp)).1 hsv hso a c hls _ (fun w hw => ⟨hw.1.1, hw.1.2.ls⟩)) ?_
   exact wZ
  | seq h =>
   rename_i a c l
   refine valid_ot rfl rfl rfl rfl ?_
   refine factC (xs := [.agg #[.int .i64 26, .string (bs []), .int .i64 0, .slice a l.length c]]) hm Tryd.func55 (by kernel_rfl) rfl rfl ?_
   refine wX ?_
   refine call1 (exprs_c ih (l := l) (fun k hk => ⟨(hin k hk).1, h k hk⟩) a c hls _ (fun w hw => ⟨hw.1.1, hw.1.2.ls⟩)) ?_
   exact wZ
  | iff hkv hsv hso hqv hqo =>
   rename_i a c k s q
   refine valid_ot rfl rfl rfl rfl ?_
   refine factC (xs := [.agg #[.int .i64 27, .string (bs []), .int .i64 0, .slice a 3 c]]) hm Tryd.func55 (by kernel_rfl) rfl rfl ?_
   refine wX ?_
   refine call1 (shaped_c ih [101, 115, 115] ([k, s, q]) (⟨⟨(hin k (by simp)).1, hkv, .inl rfl⟩, ⟨(hin s (by simp)).1, hsv, .inr ⟨rfl, hso⟩⟩, ⟨(hin q (by simp)).1, hqv, .inr ⟨rfl, hqo⟩⟩, trivial⟩) (by decide) a c hls _ (fun w hw => ⟨hw.1.1, hw.1.2.ls⟩)) ?_
   exact wZ
  | whil ho hkv hsv hso =>
   rename_i o a c k s
   rcases ho with rfl | rfl
   ·refine valid_ot rfl rfl rfl rfl ?_
    refine factC (xs := [.agg #[.int .i64 28, .string (bs []), .int .i64 0, .slice a 2 c]]) hm Tryd.func55 (by kernel_rfl) rfl rfl ?_
    refine wX ?_
    refine call1 (shaped_c ih [101, 115] ([k, s]) (⟨⟨(hin k (by simp)).1, hkv, .inl rfl⟩, ⟨(hin s (by simp)).1, hsv, .inr ⟨rfl, hso⟩⟩, trivial⟩) (by decide) a c hls _ (fun w hw => ⟨hw.1.1, hw.1.2.ls⟩)) ?_
    exact wZ
   ·refine valid_ot rfl rfl rfl rfl ?_
    refine factC (xs := [.agg #[.int .i64 34, .string (bs []), .int .i64 0, .slice a 2 c]]) hm Tryd.func55 (by kernel_rfl) rfl rfl ?_
    refine wX ?_
    refine call1 (shaped_c ih [101, 115] ([k, s]) (⟨⟨(hin k (by simp)).1, hkv, .inl rfl⟩, ⟨(hin s (by simp)).1, hsv, .inr ⟨rfl, hso⟩⟩, trivial⟩) (by decide) a c hls _ (fun w hw => ⟨hw.1.1, hw.1.2.ls⟩)) ?_
    exact wZ
  | and ho hkv hqv =>
   rename_i o a c k q
   rcases ho with rfl | rfl
   ·refine valid_ot rfl rfl rfl rfl ?_
    refine factC (xs := [.agg #[.int .i64 29, .string (bs []), .int .i64 0, .slice a 2 c]]) hm Tryd.func55 (by kernel_rfl) rfl rfl ?_
    refine wX ?_
    refine call1 (shaped_c ih [101, 101] ([k, q]) (⟨⟨(hin k (by simp)).1, hkv, .inl rfl⟩, ⟨(hin q (by simp)).1, hqv, .inl rfl⟩, trivial⟩) (by decide) a c hls _ (fun w hw => ⟨hw.1.1, hw.1.2.ls⟩)) ?_
    exact wZ
   ·refine valid_ot rfl rfl rfl rfl ?_
    refine factC (xs := [.agg #[.int .i64 30, .string (bs []), .int .i64 0, .slice a 2 c]]) hm Tryd.func55 (by kernel_rfl) rfl rfl ?_
    refine wX ?_
    refine call1 (shaped_c ih [101, 101] ([k, q]) (⟨⟨(hin k (by simp)).1, hkv, .inl rfl⟩, ⟨(hin q (by simp)).1, hqv, .inl rfl⟩, trivial⟩) (by decide) a c hls _ (fun w hw => ⟨hw.1.1, hw.1.2.ls⟩)) ?_
    exact wZ
  | not hkv =>
   rename_i a c k
   refine valid_ot rfl rfl rfl rfl ?_
   refine factC (xs := [.agg #[.int .i64 31, .string (bs []), .int .i64 0, .slice a 1 c]]) hm Tryd.func55 (by kernel_rfl) rfl rfl ?_
   refine wX ?_
   refine call1 (shaped_c ih [101] ([k]) (⟨⟨(hin k (by simp)).1, hkv, .inl rfl⟩, trivial⟩) (by decide) a c hls _ (fun w hw => ⟨hw.1.1, hw.1.2.ls⟩)) ?_
   exact wZ
  | cls0 h hsv hso =>
   rename_i x a c s
   have hxl : x.length ≤ 1048576 := hxl
   refine factC (xs := [.agg #[.int .i64 32, .string (bs x), .int .i64 0, .slice a 1 c]]) hm Tryd.func21 (by kernel_rfl) rfl rfl ?_
   refine wX ?_
   refine call1 (IsConst_c x (by omega) _) ?_
   rw [h]
   refine wX ?_
   refine call1 (shaped_c ih [115] ([s]) (⟨⟨(hin s (by simp)).1, hsv, .inr ⟨rfl, hso⟩⟩, trivial⟩) (by decide) a c hls _ (fun w hw => ⟨hw.1.1, hw.1.2.ls⟩)) ?_
   exact wZ
  | cls1 h hkv hsv hso =>
   rename_i x a c k s
   have hxl : x.length ≤ 1048576 := hxl
   refine factC (xs := [.agg #[.int .i64 32, .string (bs x), .int .i64 1, .slice a 2 c]]) hm Tryd.func21 (by kernel_rfl) rfl rfl ?_
   refine wX ?_
   refine call1 (IsConst_c x (by omega) _) ?_
   rw [h]
   refine wX ?_
   refine call1 (shaped_c ih [101, 115] ([k, s]) (⟨⟨(hin k (by simp)).1, hkv, .inl rfl⟩, ⟨(hin s (by simp)).1, hsv, .inr ⟨rfl, hso⟩⟩, trivial⟩) (by decide) a c hls _ (fun w hw => ⟨hw.1.1, hw.1.2.ls⟩)) ?_
   exact wZ
  | modu h hsv hso =>
   rename_i x a c s
   have hxl : x.length ≤ 1048576 := hxl
   refine valid_nm rfl rfl ?_
   refine factC (xs := [.agg #[.int .i64 33, .string (bs x), .int .i64 0, .slice a 1 c]]) hm Tryd.func35 (by kernel_rfl) rfl rfl ?_
   refine wX ?_
   refine call1 (IsConst_c x (by omega) _) ?_
   rw [h]
   refine wX ?_
   refine call1 (shaped_c ih [115] ([s]) (⟨⟨(hin s (by simp)).1, hsv, .inr ⟨rfl, hso⟩⟩, trivial⟩) (by decide) a c hls _ (fun w hw => ⟨hw.1.1, hw.1.2.ls⟩)) ?_
   exact wZ
  | dfn h hn hl hp hsv hso =>
   rename_i x n a c l s
   have hxl : x.length ≤ 1048576 := hxl
   rcases hn with rfl | rfl
   ·-- a node's kind, name, number, length of kids: 35 x 0 (l ++ [s]).length
    refine factC (xs := [.agg #[.int .i64 35, .string (bs x), .int .i64 0, .slice a (l ++ [s]).length c]]) hm Tryd.func21 (by kernel_rfl) rfl rfl ?_
    refine wX ?_
    refine call1 (IsMethod_c x (by omega) _ (fun w hw => hw.1.1)) ?_
    rw [show (opL.contains x || inB x || setB x) = true from h]
    refine wX ?_
    refine call1 (body_c ih (l := l) (s := s) (fun k hk => ⟨(hin k (by simp [hk])).1, hl k hk⟩) hp (hin s (by simp)).1 hsv hso a c hls _ (fun w hw => ⟨hw.1.1, hw.1.2.ls⟩)) ?_
    exact wZ
   ·-- a node's kind, name, number, length of kids: 35 x 1 (l ++ [s]).length
    refine factC (xs := [.agg #[.int .i64 35, .string (bs x), .int .i64 1, .slice a (l ++ [s]).length c]]) hm Tryd.func21 (by kernel_rfl) rfl rfl ?_
    refine wX ?_
    refine call1 (IsMethod_c x (by omega) _ (fun w hw => hw.1.1)) ?_
    rw [show (opL.contains x || inB x || setB x) = true from h]
    refine wX ?_
    refine call1 (body_c ih (l := l) (s := s) (fun k hk => ⟨(hin k (by simp [hk])).1, hl k hk⟩) hp (hin s (by simp)).1 hsv hso a c hls _ (fun w hw => ⟨hw.1.1, hw.1.2.ls⟩)) ?_
    exact wZ
  | ret ho h1 h =>
   rename_i o a c l
   have hd : decide ((l.length : Int) ≤ 1) = true := by rw [decide_eq_true_iff]; omega
   rcases ho with rfl | rfl | rfl
   ·refine valid_ot rfl rfl rfl rfl ?_
    refine factC (xs := [.agg #[.int .i64 36, .string (bs []), .int .i64 0, .slice a l.length c]]) hm Tryd.func55 (by kernel_rfl) rfl rfl ?_
    refine wX ?_
    rw [hd]
    refine wX ?_
    refine call1 (exprs_c ih (l := l) (fun k hk => ⟨(hin k hk).1, h k hk⟩) a c hls _ (fun w hw => ⟨hw.1.1, hw.1.2.ls⟩)) ?_
    exact wZ
   ·refine valid_ot rfl rfl rfl rfl ?_
    refine factC (xs := [.agg #[.int .i64 37, .string (bs []), .int .i64 0, .slice a l.length c]]) hm Tryd.func55 (by kernel_rfl) rfl rfl ?_
    refine wX ?_
    rw [hd]
    refine wX ?_
    refine call1 (exprs_c ih (l := l) (fun k hk => ⟨(hin k hk).1, h k hk⟩) a c hls _ (fun w hw => ⟨hw.1.1, hw.1.2.ls⟩)) ?_
    exact wZ
   ·refine valid_ot rfl rfl rfl rfl ?_
    refine factC (xs := [.agg #[.int .i64 38, .string (bs []), .int .i64 0, .slice a l.length c]]) hm Tryd.func55 (by kernel_rfl) rfl rfl ?_
    refine wX ?_
    rw [hd]
    refine wX ?_
    refine call1 (exprs_c ih (l := l) (fun k hk => ⟨(hin k hk).1, h k hk⟩) a c hls _ (fun w hw => ⟨hw.1.1, hw.1.2.ls⟩)) ?_
    exact wZ
  | begin hsv hso hl he h1 h2 =>
   rename_i a c s l e
   refine valid_ot rfl rfl rfl rfl ?_
   refine factC (xs := [.agg #[.int .i64 40, .string (bs []), .int .i64 0, .slice a (s :: (l ++ e)).length c]]) hm Tryd.func55 (by kernel_rfl) rfl rfl ?_
   refine wX ?_
   refine call1 (begin_c ih (s := s) (rs := l) (es := e) (hin s (by simp)).1 hsv hso (fun k hk => ⟨(hin k (by simp [hk])).1, hl k hk⟩) (fun k hk => ⟨(hin k (by simp [hk])).1, he k hk⟩) h1 h2 a c hls _ (fun w hw => ⟨hw.1.1, hw.1.2.ls⟩)) ?_
   exact wZ
  | alias h hy =>
   rename_i x y a c ay cy
   have hxl : x.length ≤ 1048576 := hxl
   have hyl : y.length ≤ 1048576 := (hin ⟨6, y, 0, ay, [], cy⟩ (by simp)).2.str
   have hsa : a.isSome = true := kid_some (i := 0) hk rfl
   refine valid_nm rfl rfl ?_
   refine factC (xs := [.agg #[.int .i64 43, .string (bs x), .int .i64 0, .slice a 1 c]]) hm Tryd.func35 (by kernel_rfl) rfl rfl ?_
   refine wX ?_
   refine call1 (IsMethod_c x (by omega) _ (fun w hw => hw.1.1)) ?_
   rw [show (opL.contains x || inB x || setB x) = true from h]
   refine wX ?_
   refine call1 (shaped_c ih [101] ([⟨6, y, 0, ay, [], cy⟩]) (⟨⟨(hin ⟨6, y, 0, ay, [], cy⟩ (by simp)).1, .sym (.inl hy), .inl rfl⟩, trivial⟩) (by decide) a c hls _ (fun w hw => ⟨hw.1.1, hw.1.2.ls⟩)) ?_
   refine wX ?_
   refine Nd.mk ⟨hsa, by decide, by decide⟩ ?_
   refine wX ?_
   refine LdN.fld (a := a) (q := 0) (.int .i64 6) rfl (fun w hw => hw.1.2.row) rfl ?_
   refine wX ?_
   refine Nd.mk ⟨hsa, by decide, by decide⟩ ?_
   refine wX ?_
   refine LdN.fld (a := a) (q := 0) (.string (bs y)) rfl (fun w hw => hw.1.2.row) rfl ?_
   refine wX ?_
   refine call1 (IsMethod_c y (by omega) _ (fun w hw => hw.1.1)) ?_
   rw [show (opL.contains y || inB y || setB y) = true from hy]
   exact wZ
  | undef h =>
   rename_i x a c
   have hxl : x.length ≤ 1048576 := hxl
   refine valid_nm rfl rfl ?_
   refine factC (xs := [.agg #[.int .i64 44, .string (bs x), .int .i64 0, .slice a 0 c]]) hm Tryd.func35 (by kernel_rfl) rfl rfl ?_
   refine wX ?_
   refine call1 (leaf_c (⟨44, x, 0, a, [], c⟩ : TP) rfl _) ?_
   refine wX ?_
   refine call1 (IsMethod_c x (by omega) _ (fun w hw => hw.1.1)) ?_
   rw [show (opL.contains x || inB x || setB x) = true from h]
   exact wZ
  | cas hn hkv hl h1 he h2 =>
   rename_i d n a c k l e
   refine factC (xs := [.agg #[.int .i64 46, .string (bs []), .int .i64 n, .slice a (k :: (l ++ e)).length c]]) hm Tryd.func21 (by kernel_rfl) rfl rfl ?_
   refine wX ?_
   refine call1 (cases_c ih d n hn hkv hl h1 he h2 hN hk _ (fun w hw => hw.1)) ?_
   exact wZ
set_option maxHeartbeats 4000000 in
theorem use_c {t : TP} (hk : TreeK t) (hv : V .use t) : Yes 38 t := by
 cases hv with
 | use hkv hp =>
  rename_i a c k
  have hks := (hk.kid (k := k) (List.mem_singleton.2 rfl))
  have hsa : a.isSome = true := kid_some (i := 0) hk rfl
  refine factC (xs := [.agg #[.int .i64 45, .string (bs []), .int .i64 0, .slice a 1 c]]) hm Tryd.func38 (by kernel_rfl) rfl rfl ?_
  refine wX ?_
  refine call1 (Expr_c 45 (by unfold exOp; decide) _) ?_
  refine wX ?_
  refine call1 (valid_ot (t := ⟨45, [], 0, a, [k], c⟩) rfl rfl rfl rfl ?_ _ (fun w hw => hw.1)) ?_
  ·-- .. in other: 45 1
   refine factC (xs := [.agg #[.int .i64 45, .string (bs []), .int .i64 0, .slice a 1 c]]) hm Tryd.func55 (by kernel_rfl) rfl rfl ?_
   refine wX ?_
   refine call1 (shaped_c (valid_c (k.sz + 1)) [101] [k] ⟨⟨by omega, hkv, .inl rfl⟩, trivial⟩ (by decide) a c hk.ls _ (fun w hw => ⟨hw.1.1, hw.1.2.ls⟩)) ?_
   refine wX ?_
   refine Nd.mk ⟨hsa, by decide, by decide⟩ ?_
   refine wX ?_
   refine LdN.agg (a := a) (q := 0) (nodeC k) rfl (fun w hw => hw.1.2.row) rfl (fun j hj => nodesC_get [k] 0 j hj rfl) ?_
   refine wX ?_
   refine call1 (isPath_c k hp hks _ (fun w hw => hw.1.2.kid (List.mem_singleton.2 rfl))) ?_
   exact wZ
  ·exact wZ
set_option maxHeartbeats 4000000 in
theorem top_c {t : TP} (hk : TreeK t) (hv : V .top t) : Yes 15 t := by
 cases hv with
 | top h hu =>
  rename_i a c l
  have hkid : ∀ k ∈ l, Yes 38 k := fun k hkm => by
   by_cases ho : k.op = 45
   ·exact use_c (hk.kid hkm) (hu k hkm ho)
   ·exact expr_c (valid_c (k.sz + 1)) (Nat.lt_succ_self _) (hk.kid hkm) (h k hkm ho)
  have hval : Yes 21 ⟨26, [], 0, a, l, c⟩ := by
   refine valid_ot rfl rfl rfl rfl ?_
   refine factC (xs := [.agg #[.int .i64 26, .string (bs []), .int .i64 0, .slice a l.length c]]) hm Tryd.func55 (by kernel_rfl) rfl rfl ?_
   refine wX ?_
   refine call1 (?_ : SpecH Tryd.prog 42 (pvs [.slice a l.length c]) _ (Ret (.bool true) _)) ?_
   ·refine factC hm Tryd.func42 (by kernel_rfl) rfl rfl ?_ _ (fun w hw => (hw.1 : ScanF w ∧ TreeF w ⟨26, [], 0, a, l, c⟩))
    refine wX ?_
    refine call1 (NoFn_c 60 #[] a l c (fun _ => True) hk.ls (fun k hkm => ?_) _ (fun w hw => ⟨hw.1.1, hw.1.2.ls, trivial⟩)) ?_
    ·refine factC (xs := [nodeV k]) hm Tryd.func60 (by kernel_rfl) rfl rfl ?_
     refine wX ?_
     refine call1 (hkid k hkm _ (fun w hw => ⟨hw.1.1, hw.1.2.1⟩)) ?_
     refine wX ?_
     rfl
    ·refine wX ?_
     rfl
   ·exact wZ
  refine factC (xs := [.agg #[.int .i64 26, .string (bs []), .int .i64 0, .slice a l.length c]]) hm Tryd.func15 (by kernel_rfl) rfl rfl ?_
  refine wX ?_
  refine call1 (hval _ (fun w hw => hw.1)) ?_
  exact wZ
end Go.Proofs.YtpikpjlhdkkigaaDoor
namespace Go.AX
theorem swT {H : List Ent} (i j : Nat) (hi : isA (nthE H i) = true) (hj : isA (nthE H j) = true) (hne : Nat.beq i j = false) : TurnS H (swE H i j) := by
 refine ⟨?_, fun ρ S w hs => ⟨S, hs.swE hi hj hne⟩⟩
 unfold swE
 split <;> simp
end Go.AX
namespace Go.Proofs.YtpikpjlhdkkigaaDoor
open Go.AX Go.RowKit Go.Tree Go.Scan
set_option maxRecDepth 20000
def stN : RvS := ⟨[], [], false, none, 0, none, 0⟩
theorem stN_ok : RvOk stN 0 := ⟨fun d h => (by cases h), Nat.le_refl _, fun _ => rfl, Nat.le_refl _, Nat.le_refl _, fun _ => rfl, Nat.le_refl _, fun d h => (by cases h), by decide⟩
abbrev whole (t : TP) : WR := wk t [0] [[]]
structure ReI where
 rb : Nat
 st : RvS
structure Resd (t : TP) (st : RvS) : Prop where
 ok : RvOk st (1 + 2 * t.sz)
 nm : nmS st.sc = (whole t).nm
 pl : st.pl = (whole t).pl
 un : st.un = (whole t).un
set_option maxHeartbeats 4000000 in
theorem resolve_c (t : TP) (ht : TreeK t) (hz : t.sz ≤ 40000) (A : World → Prop) (hA : ∀ w, A w → TreeF w t) :
  SpecH Tryd.prog 13 (pvs [nodeV t]) [.fact A] (RetG (ι := ReI) (fun i => Resd t i.st) (fun i => .pointer (some ⟨i.rb, 0, none⟩)) fun i => rvE A i.rb i.st) := by
 refine SpecH.pad [.app 39 3 [] none 0 0, .app 42 1 [] none 0 0, .app 52 2 [] none 0 0, .dead, .dead] rfl (SpecH.turnS (famNew 4 rfl).s (SpecH.turnS (famNew 5 rfl).s ?_))
 refine ownT hm Tryd.func13 (by kernel_rfl) rfl rfl (fun _ _ => okHB_eq rfl) (fun _ _ => Nat.le_of_ble_eq_true rfl) ?_
 (conv => whnf)
 refine BoxN.known (nodeC t) rfl fun nb => ?_
 (conv => whnf)
 refine BoxN.known [.slice none 0 0, .slice none 0 0, .bool false] rfl fun rb => ?_
 ((conv => whnf); (repeat ((first | refine VrN.keep ?_ | refine BoxN.own ?_ | refine RwN.own ?_); (conv => whnf))))
 refine DrawN.planC (fun w => SlAt (some ⟨nb, 0, none⟩) 4 (nodeC t) w) [0, 2] [(1, 1), (3, 0), (4, 0)] [] (by decide +kernel) (fun w hw => hw.2.2.2.2.2.2.1) ?_
 refine wXO ?_
 refine ReadC.agg (a := some ⟨nb, 0, none⟩) (q := 0) (nodeC t) rfl rfl rfl (fun w hw => hw) rfl (fun j hj => by rw [Nat.zero_add]) ?_
 refine wXO ?_
 refine callG (open_c A rb stN stN_ok none) [0, 7, 2, 3, 4, 5] rfl ⟨rfl, rfl, rfl, rfl, rfl, rfl, trivial⟩ rfl fun j hj => ?_
 obtain ⟨b, sb, c⟩ := j
 refine wXO ?_
 refine callG (walk_c t ht A hA rb (opened stN b none sb c) 1 [0] (some b) (stN_ok.opened (by decide) hj) (by omega) ⟨⟨b, none, 0, none, []⟩, rfl, rfl, rfl⟩ (by simp)) [0, 7, 2, 3, 4, 5] rfl ⟨rfl, rfl, rfl, rfl, rfl, rfl, trivial⟩ rfl fun st1 w1 => ?_
 refine wXO ?_
 refine wX ?_
 refine ⟨_, swT 1 7 rfl rfl rfl, ⟨rb, st1⟩, ⟨w1.ok, w1.nm, w1.pl, ?_⟩, rfl, ?_⟩
 ·rw [w1.un]
  rfl
 ·exact ⟨wkE_refl _, wkE_refl _, wkE_refl _, wkE_refl _, wkE_refl _, wkE_refl _, wkH_nil _⟩
end Go.Proofs.YtpikpjlhdkkigaaDoor
namespace Go.Proofs.YtpikpjlhdkkigaaDoor
open Go.AX Go.RowKit Go.Tree Go.Scan
set_option maxRecDepth 20000
noncomputable def chkV (t : TP) : Int := open Classical in if Fit 3000 1 [t] then (if (whole t).un then 6 else 0) else 2
set_option maxHeartbeats 4000000 in
theorem Check_c (t : TP) (ht : TreeK t) (hv : Fit 3000 1 [t] → V .top t) : ∀ H, (∀ w, Facts H w → ScanF w ∧ TreeF w t) → SpecH Tryd.prog 11 (pvs [nodeV t]) H (Ret (.int .i64 (chkV t)) H) := by
 refine factC hm Tryd.func11 (by kernel_rfl) rfl rfl ?_
 have hs1 : szs [t] = t.sz := by simp [szs]
 have hkl := ht.len
 (conv => whnf)
 refine BoxN.own ?_
 (conv => whnf)
 refine BoxN.known [.int .i64 0] rfl fun lb => ?_
 refine wX ?_
 refine EffW.appTo (i := 2) (q := 0) (ys := [_]) [.int .i64 3000] 1 rfl rfl rfl rfl rfl rfl rfl (Nat.le_of_ble_eq_true rfl) rfl rfl ?_
 refine wX ?_
 refine callG (small_c t ht lb 3000 1 ⟨by decide, by decide⟩ ⟨by decide, by decide⟩ (fun w => ScanF w ∧ TreeF w t) (fun w hw => hw.2)) [0, 2] rfl ⟨rfl, rfl, trivial⟩ rfl fun i hi => ?_
 obtain ⟨b, z⟩ := i
 obtain ⟨h1, _, _, _⟩ := hi
 cases b with
 | false =>
  have hnf : ¬ Fit 3000 1 [t] := fun h => by cases h1.2 h
  refine wX ?_
  rw [chkV, if_neg hnf]
 | true =>
  have hf : Fit 3000 1 [t] := h1.1 rfl
  have hvt := hv hf
  have hz : (szs [t] : Int) ≤ 3000 := hf.1
  refine wX ?_
  refine call1 (top_c ht hvt _ (fun w hw => hw.1)) ?_
  refine wX ?_
  have hfl : ∀ l : List TP, (l.filter fun k => k.op == 45).length ≤ l.length := fun l => List.length_filter_le _ _
  refine LoopN.intro Nat (fun i => i ≤ t.kids.length)
   (fun i => mkS Tryd.f11.ntmps 0 [(1, .c (.lp 1 0)), (2, .c (.v (.int .i64 0))), (4, .c (.v (.int .i64 (((t.kids.take i).filter fun k => k.op == 45).length : Int)))), (15, .c (.v (.slice t.a t.kids.length t.cap))), (16, .c (.v (.int .i64 (t.kids.length : Int)))), (17, .c (.v (.int .i64 (i : Int))))])
   (fun _ => [.fact (fun w => ScanF w ∧ TreeF w t), .blk 24 (vs (nodeC t)), .dead]) (fun i => t.kids.length - i) [] rfl (fun _ => rfl) (fun _ => rfl) (fun _ _ => okHB_eq rfl)
   ⟨0, Nat.zero_le _, ?_, ⟨fun _ h => h, wkE_refl _, trivial, wkH_nil _⟩⟩ ?_
  ·exact wKK
  intro i hi
  have hti := hfl (t.kids.take i)
  have htl : (t.kids.take i).length ≤ t.kids.length := by rw [List.length_take]; omega
  refine wX ?_
  refine brd_dec (fun h2 => ?_) (fun h2 => ?_)
  ·obtain ⟨k, hk⟩ : ∃ k, t.kids[i]? = some k := ⟨_, List.getElem?_eq_getElem (by omega)⟩
   have hsa := kid_some ht hk
   refine wX ?_
   refine Nd.mk ⟨hsa, by omega, by omega⟩ ?_
   refine wX ?_
   refine LdN.agg (nodeC k) rfl (fun w hw => hw.1.2.row) rfl (fun j hj => by rw [Int.toNat_natCast]; exact nodesC_get t.kids i j hj hk) ?_
   refine wX ?_
   have hfs : ((t.kids.take (i + 1)).filter fun k => k.op == 45) = ((t.kids.take i).filter fun k => k.op == 45) ++ (if k.op = 45 then [k] else []) := by
    rw [take_snoc hk, List.filter_append]
    by_cases h : k.op = 45 <;> simp [h]
   refine brd_eq (fun h3 => ?_) (fun h3 => ?_)
   ·rw [if_pos h3] at hfs
    refine wX ?_
    refine ⟨i + 1, by omega, by show t.kids.length - (i + 1) < t.kids.length - i; omega, ?_, ?_⟩
    ·(repeat' (first | exact trivial | refine And.intro (by with_reducible rfl) ?_ | (with_reducible exact wkC_refl _) | (with_reducible exact wkCs_refl _) | refine And.intro ?_ ?_))
     all_goals first | rfl | exact av_int (by rw [hfs, List.length_append]; rfl) | exact av_int (by rw [wrap_i64 (by omega)]; omega)
    ·exact ⟨fun _ h => h, wkE_refl _, trivial, wkH_nil _⟩
   ·rw [if_neg h3, List.append_nil] at hfs
    refine wX ?_
    refine ⟨i + 1, by omega, by show t.kids.length - (i + 1) < t.kids.length - i; omega, ?_, ?_⟩
    ·(repeat' (first | exact trivial | refine And.intro (by with_reducible rfl) ?_ | (with_reducible exact wkC_refl _) | (with_reducible exact wkCs_refl _) | refine And.intro ?_ ?_))
     all_goals first | rfl | exact av_int (by rw [hfs]) | exact av_int (by rw [wrap_i64 (by omega)]; omega)
    ·exact ⟨fun _ h => h, wkE_refl _, trivial, wkH_nil _⟩
  ·have hie : i = t.kids.length := by omega
   rw [hie, List.take_length, ← hvt.top_us]
   refine wX ?_
   refine call1 (usings_c t ht (by omega) _ (fun w hw => hw.1.2)) ?_
   refine wX ?_
   refine brd_ne (fun h => absurd rfl h) (fun _ => ?_)
   refine wX ?_
   refine callG (resolve_c t ht (by omega) (fun w => ScanF w ∧ TreeF w t) (fun w h => h.2)) [0] rfl ⟨rfl, trivial⟩ rfl fun j hj => ?_
   obtain ⟨rb, st⟩ := j
   have hu := hj.un
   refine wX ?_
   refine LdN.one (a := some ⟨rb, 0, none⟩) (q := 2) (.bool st.un) rfl (fun w hw => hw.2.1) rfl ?_
   refine wX ?_
   have hv6 : chkV t = if st.un then 6 else 0 := by rw [chkV, if_pos hf, ← hu]
   refine brd_intro (fun h6 => ?_) (fun h6 => ?_)
   ·rw [h6] at hv6
    refine wX ?_
    rw [hv6]
    rfl
   ·rw [h6] at hv6
    refine wX ?_
    rw [hv6]
    rfl
def slV (d : ScD) : Value := .slice (at0 d.na) d.l.length d.nc
def slsC (sc : List ScD) : List Value := sc.map slV
abbrev TrF (t : TP) (w : World) : Prop := ScanF w ∧ TreeF w t
def ScopesR (t : TP) (v : Value) (G : World → Prop) : Prop :=
 if chkV t = 0 then ∃ (sc : List ScD) (a : Option Addr) (cap : Nat), v = .tuple #[.slice a sc.length cap, .int .i64 0] ∧ nmS sc = (whole t).nm ∧ sc.length ≤ cap ∧ sc.length ≤ 100000 ∧ (∀ d ∈ sc, ScOk d) ∧ (a = none → sc = []) ∧ ∀ w, G w → SlAt a sc.length (slsC sc) w ∧ ∀ d ∈ sc, SlAt (at0 d.na) d.l.length (strsC d.l) w
 else v = .tuple #[.slice none 0 0, .int .i64 (chkV t)]
structure ScI where
 i : Nat
 a : Option Addr
 cap : Nat
set_option maxHeartbeats 4000000 in
theorem Scopes_c (t : TP) (ht : TreeK t) (hv : Fit 3000 1 [t] → V .top t) : SpecF Tryd.prog 10 [nodeV t] (TrF t) (ScopesR t) := by
 refine specF hm Tryd.func10 (by kernel_rfl) rfl rfl ?_
 refine wX ?_
 refine call1 (Check_c t ht hv _ (fun w hw => hw.1)) ?_
 refine wX ?_
 refine brd_ne (fun h => ?_) (fun h => ?_)
 ·refine wX ?_
  refine fin_v ?_
  show if chkV t = 0 then _ else _
  rw [if_neg h]
 have hf : Fit 3000 1 [t] := Classical.byContradiction fun hf => by
  unfold chkV at h
  rw [if_neg hf] at h
  cases h
 have hs1 : szs [t] = t.sz := by simp [szs]
 have hz : (szs [t] : Int) ≤ 3000 := hf.1
 refine wX ?_
 refine callG (resolve_c t ht (by omega) (TrF t) (fun w h => h.2)) [0] rfl ⟨rfl, trivial⟩ rfl fun j hj => ?_
 obtain ⟨rb, st⟩ := j
 have hnm : nmS st.sc = (whole t).nm := hj.nm
 have ok : RvOk st (1 + 2 * t.sz) := hj.ok
 refine wX ?_
 refine LdN.one (a := some ⟨rb, 0, none⟩) (q := 0) (.slice (at0 st.sa) st.sc.length st.scap) rfl (fun w hw => hw.2.1) rfl ?_
 refine wX ?_
 have hsm := ok.sm
 refine LoopN.intro ScI (fun ⟨i, a, cap⟩ => i ≤ st.sc.length ∧ i ≤ cap ∧ (a = none → i = 0))
  (fun ⟨i, a, cap⟩ => mkS Tryd.f10.ntmps 0 [(2, .c (.v (.slice none 0 0))), (3, .c (.v (.int .i64 0))), (5, .c (.v (.slice a i cap))), (17, .c (.v (.slice (at0 st.sa) st.sc.length st.scap))), (18, .c (.v (.int .i64 (st.sc.length : Int)))), (19, .c (.v (.int .i64 (i : Int))))])
  (fun ⟨i, a, cap⟩ => [.fact (TrF t), .dead, .dead, .app 42 1 (ptrsC st.sc) (at0 st.sa) st.sc.length st.scap, .dead, famE (rows1 0 st.sc), famE (rows2 st.sc), .app 33 1 (slsC (st.sc.take i)) a i cap])
  (fun ⟨i, _, _⟩ => st.sc.length - i) [.app 33 1 [] none 0 0] rfl (fun _ => rfl) (fun _ => rfl) (fun _ _ => okHB_eq rfl)
  ⟨⟨0, none, 0⟩, ⟨Nat.zero_le _, Nat.le_refl _, fun _ => rfl⟩, ?_, ⟨fun _ h => h, trivial, trivial, wkE_refl _, trivial, wkE_refl _, wkE_refl _, wkE_refl _, wkH_nil _⟩⟩ ?_
 ·exact wKK
 rintro ⟨i, a, cap⟩ ⟨hi, hic, hia⟩
 refine wX ?_
 refine brd_dec (fun h1 => ?_) (fun h1 => ?_)
 ·obtain ⟨d, hd⟩ : ∃ d, st.sc[i]? = some d := ⟨_, List.getElem?_eq_getElem (by omega)⟩
  have hsa : (at0 st.sa).isSome = true := by
   cases hs : st.sa with
   | none => rw [ok.sn hs] at hd; cases hd
   | some b => rfl
  refine wX ?_
  refine Nd.mk ⟨hsa, by omega, by omega⟩ ?_
  refine wX ?_
  refine LdN.one (.pointer (some ⟨d.b, 0, none⟩)) rfl (fun w hw => hw.2.1) (by rw [Int.toNat_natCast]; show (ptrsC st.sc)[i * 1]? = _; rw [Nat.mul_one, ptrsC, List.getElem?_map, hd]; rfl) ?_
  refine wX ?_
  refine LdN.one (a := some ⟨d.b, 0, none⟩) (q := 1) (slV d) rfl (fun w hw => (scF_of ok.sc hw.2.2.1 hw.2.2.2.1 i d hd).1) rfl ?_
  refine wX ?_
  refine Nd.mk ⟨Nat.le_refl 1, rfl, rfl⟩ ?_
  (conv => whnf)
  refine AppN.grow 7 (slsC (st.sc.take i)) [slV d] rfl rfl ⟨Nat.le_refl 1, ⟨by show (i + 1) * 24 ≤ _; omega, by omega⟩, by decide⟩ fun b' c' g1 g2 => ?_
  refine wX ?_
  have e1 : slsC (st.sc.take i) ++ [slV d] = slsC (st.sc.take (i + 1)) := by rw [take_snoc hd]; simp [slsC]
  rw [e1]
  refine ⟨⟨i + 1, some ⟨b', 0, none⟩, c'⟩, ⟨by omega, g1, (fun h => by cases h)⟩, by show st.sc.length - (i + 1) < st.sc.length - i; omega, ?_, ⟨fun _ h => h, trivial, trivial, wkE_refl _, trivial, wkE_refl _, wkE_refl _, wkE_refl _, wkH_nil _⟩⟩
  exact wKK
 ·have hie : i = st.sc.length := by omega
  rw [hie, List.take_length]
  refine wX ?_
  refine fin_p (fun w => SlAt a st.sc.length (slsC st.sc) w ∧ ∀ d ∈ st.sc, SlAt (at0 d.na) d.l.length (strsC d.l) w) ?_ fun w hw => ⟨by have := hw.2.2.2.2.1; simpa using this, fun d hd => ?_⟩
  ·show if chkV t = 0 then _ else _
   rw [if_pos h]
   exact ⟨st.sc, a, cap, rfl, hnm, by omega, by omega, ok.sc, fun h0 => List.length_eq_zero_iff.1 (by have := hia h0; omega), fun w hw => hw⟩
  ·obtain ⟨s, hs⟩ := List.getElem?_of_mem hd
   exact (scF_of ok.sc hw.2.2.1 hw.2.2.2.1 s d hs).2
abbrev xL : List UInt8 := [120]
def lcT : TP := ⟨10, xL, 0, none, [], 0⟩
def i1T : TP := ⟨4, [], 1, none, [], 0⟩
def seT (a : Nat) : TP := ⟨11, xL, 0, some ⟨a, 0, none⟩, [i1T], 1⟩
def t1T (a b : Nat) : TP := ⟨26, [], 0, some ⟨b, 0, none⟩, [seT a, lcT], 2⟩
def t2T (b : Nat) : TP := ⟨26, [], 0, some ⟨b, 0, none⟩, [lcT], 1⟩
theorem loX : loB xL = true := by decide +kernel
theorem kL : TreeK lcT := .mk (fun _ => rfl) (by decide) (by decide) (by decide) (fun k h => by cases h)
theorem kI : TreeK i1T := .mk (fun _ => rfl) (by decide) (by decide) (by decide) (fun k h => by cases h)
theorem one_mem {P : TP → Prop} {x : TP} (h : P x) : ∀ k ∈ [x], P k := fun k hk => by rw [List.mem_singleton.1 hk]; exact h
theorem two_mem {P : TP → Prop} {x y : TP} (h : P x) (g : P y) : ∀ k ∈ [x, y], P k := fun k hk => by
 rcases List.mem_cons.1 hk with rfl | hk
 ·exact h
 ·exact one_mem g k hk
theorem kS (a : Nat) : TreeK (seT a) := .mk (fun h => by cases h) (by show 1 ≤ _; decide) (by show 1 ≤ _; decide) (by show 1 ≤ 1; decide) (one_mem kI)
theorem k1 (a b : Nat) : TreeK (t1T a b) := .mk (fun h => by cases h) (by show 2 ≤ _; decide) (by show 0 ≤ _; decide) (by show 2 ≤ 2; decide) (two_mem (kS a) kL)
theorem k2 (b : Nat) : TreeK (t2T b) := .mk (fun h => by cases h) (by show 1 ≤ _; decide) (by show 0 ≤ _; decide) (by show 1 ≤ 1; decide) (one_mem kL)
theorem v1 (a b : Nat) : V .top (t1T a b) := .top (two_mem (fun _ => .setl loX (.int (by decide))) (fun _ => .loc loX)) (two_mem (fun h => absurd (show (11 : Int) = 45 from h) (by decide)) (fun h => absurd (show (10 : Int) = 45 from h) (by decide)))
theorem v2 (b : Nat) : V .top (t2T b) := .top (one_mem fun _ => .loc loX) (one_mem fun h => absurd (show (10 : Int) = 45 from h) (by decide))
theorem c1 (a b : Nat) : chkV (t1T a b) = 0 := by
 have hf : Fit 3000 1 [t1T a b] := ⟨by show ((4 : Nat) : Int) ≤ 3000; decide, one_mem (by show (1 : Int) + ((3 : Nat) : Int) ≤ 61; decide)⟩
 rw [chkV, if_pos hf]
 rfl
theorem c2 (b : Nat) : chkV (t2T b) = 6 := by
 have hf : Fit 3000 1 [t2T b] := ⟨by show ((2 : Nat) : Int) ≤ 3000; decide, one_mem (by show (1 : Int) + ((2 : Nat) : Int) ≤ 61; decide)⟩
 rw [chkV, if_pos hf]
 rfl
theorem n1 (a b : Nat) : (whole (t1T a b)).nm = [[xL]] := rfl
theorem f0 {w : World} {t : TP} (hk : TreeK t) (h : t.kids = []) : TreeF w t := .mk (by rw [h]; exact SlAt.nil) hk.len hk.str hk.cap (fun k hkk => by rw [h] at hkk; cases hkk)
theorem ft1 {a b : Nat} {w : World} (h1 : SlAt (some ⟨a, 0, none⟩) (1 * 4) (nodesC [i1T]) w) (h2 : SlAt (some ⟨b, 0, none⟩) (2 * 4) (nodesC [seT a, lcT]) w) : TreeF w (t1T a b) :=
 .mk h2 (k1 a b).len (k1 a b).str (k1 a b).cap (two_mem (.mk h1 (kS a).len (kS a).str (kS a).cap (one_mem (f0 kI rfl))) (f0 kL rfl))
theorem ft2 {b : Nat} {w : World} (h2 : SlAt (some ⟨b, 0, none⟩) (1 * 4) (nodesC [lcT]) w) : TreeF w (t2T b) :=
 .mk h2 (k2 b).len (k2 b).str (k2 b).cap (one_mem (f0 kL rfl))
def Sane15 : Prop := ∀ H, (∀ w, Facts H w → ScanF w) → SpecH Tryd.prog 5 (pvs []) H (Ret (.bool true) H)
set_option maxHeartbeats 4000000 in
theorem sane15_c : Sane15 := by
 refine factC hm Tryd.func5 (by kernel_rfl) rfl rfl ?_
 refine wXR ?_
 refine RwN.known (nodesC [i1T]) rfl fun ra => ?_
 refine wXR ?_
 refine RwN.known (nodesC [seT ra, lcT]) rfl fun rb => ?_
 refine wXR ?_
 refine SpecH.shut 2 rfl ?_
 (conv => whnf)
 refine SpecH.shut 4 rfl ?_
 (conv => whnf)
 refine SpecF.call (Scopes_c (t1T ra rb) (k1 ra rb) fun _ => v1 ra rb) (fun w hw => ⟨hw.1, ft1 hw.2.1 hw.2.2.1⟩) fun v G hR => ?_
 unfold ScopesR at hR
 rw [if_pos (c1 ra rb)] at hR
 obtain ⟨sc, a, cap, rfl, hnm, hlc, hl1, hok, hna, hG⟩ := hR
 obtain ⟨d, rfl, hd⟩ : ∃ d : ScD, sc = [d] ∧ d.l = [xL] := by
  rw [n1] at hnm
  cases sc with
  | nil => cases hnm
  | cons d r =>
   cases r with
   | nil => exact ⟨d, rfl, (List.cons.inj hnm).1⟩
   | cons e r => cases (List.cons.inj hnm).2
 have hsa : a.isSome = true := by
  cases a with
  | none => cases hna rfl
  | some b => rfl
 have hdo := hok d (List.mem_singleton.2 rfl)
 obtain ⟨db, dn, dc, dr, dl⟩ := d
 obtain rfl : dl = [xL] := hd
 have hda : (at0 dn).isSome = true := by
  cases dn with
  | none => cases (hdo.nil rfl).1
  | some b => rfl
 refine wXR ?_
 refine Nd.mk ⟨hsa, by decide, by show (0 : Int) < ((1 : Nat) : Int); decide⟩ ?_
 refine wXR ?_
 refine LdN.one (.slice (at0 dn) 1 dc) rfl (fun w hw => (hG w hw.2.2.2.1).1) rfl ?_
 refine wXR ?_
 refine Nd.mk ⟨hsa, by decide, by show (0 : Int) < ((1 : Nat) : Int); decide⟩ ?_
 refine wXR ?_
 refine LdN.one (.slice (at0 dn) 1 dc) rfl (fun w hw => (hG w hw.2.2.2.1).1) rfl ?_
 refine wXR ?_
 refine Nd.mk ⟨hda, by decide, by decide⟩ ?_
 refine wXR ?_
 refine LdN.one (.string (bs xL)) rfl (fun w hw => (hG w hw.2.2.2.1).2 _ (List.mem_singleton.2 rfl)) rfl ?_
 refine wXR ?_
 refine RwN.known (nodesC [lcT]) rfl fun rc => ?_
 refine wXR ?_
 refine call1 (Check_c (t2T rc) (k2 rc) (fun _ => v2 rc) _ (fun w hw => ⟨hw.1, ft2 hw.2.2.2.2.1⟩)) ?_
 rw [c2]
 refine wXR ?_
 rfl
end Go.Proofs.YtpikpjlhdkkigaaDoor
namespace Go.AX
open Go.ChangeShapes Go.WideShapes Go.ChangeAt Go.RowKit
section
variable {H : Type} {enc : TypeId × Value → H}
theorem liftU {C : Checked} {os : Os} {f : FuncId} {fn : Func} {s : ChangeSpec} {c : (H : Type) → List (DataW H) → Bool} {F : Stop.Interp} {conds : List PathCond} {laid : List (String × DataW Unit)} (own : ownKnob C.prog.godebug = none) (started : os.Started) (noInit : C.prog.inits.idxOf? f = none)
  (hfn : C.prog.funcs[f]? = some fn)
  (witness : ∃ (w : World) (tape : Tape) (i : Input), w.os = os ∧ (w.forCall tape i).Shaped C.prog ∧ i.vars = [] ∧ Input.okWide C.prog (w.forCall tape i) .any w.heap.size f i ∧
   ({ OpenSpec.ofChange s with cond := some c } : OpenSpec).preRow enc C.prog fn conds false laid (w.forCall tape i).memory i.args ∧ ({} : Assume).holds C.prog (lone (Frame.enter C.prog f i.args .normal) [] (w.forCall tape i)))
  (hlaid : laidOutB C.prog = true) (hvars : s.vars = []) {t : TypeId} (hres : fn.resultTypes = #[t]) (hbool : C.prog.underlying t = some .bool)
  (hpar : (fn.params.toList.all fun t => C.prog.readableRec t && decide (t < C.prog.types.size)) = true)
  (hspec : ∀ ds : List (DataW H), ds.length = fn.params.toList.length → s.fn H ds = { results := [.lit (.bool true)], args := ds })
  (walk : ∀ (W : World) (base : Nat) (args : Array Value) (ds : List (DataW H)) (p : List MemPlace), Known enc C.prog fn W base args ds p → laidMetH C.prog laid W → c H ds = true → Walk C.prog f args W) :
  ReturnsInHanded {} C os f .any (({ OpenSpec.ofChange s with cond := some c } : OpenSpec).preRow enc C.prog fn conds false laid) ((({ OpenSpec.ofChange s with cond := some c } : OpenSpec).at F).post enc C.prog fn false true false false) := by
 refine returnsInHanded_of_row own started noInit hfn witness ?_
 intro W base args ds gs before hval hW _ hcond hwt hL hsh _
 have hW' := hW
 obtain ⟨p, q, hA, hV, rfl, hfz, hnd⟩ := hW
 have hV' : s.vars = [] := hvars
 rw [show ({ OpenSpec.ofChange s with cond := some c } : OpenSpec).vars = [] from hvars] at hV
 obtain ⟨rfl, rfl⟩ := trodVars_none hV
 have hc := hcond c rfl
 rw [List.append_nil] at hc
 have hvt : s.plain.varTypes C.prog = [] := by simp [DataSpec.varTypes, ChangeSpec.plain, hvars]
 rw [show ({ OpenSpec.ofChange s with cond := some c } : OpenSpec).bare.plain.varTypes C.prog = [] from hvt, List.append_nil, List.append_nil] at hwt
 refine (walk W base args ds p ⟨hval, hA, hwt, hsh⟩ hL hc).mono fun e W' ⟨he, bel⟩ => ?_
 subst he
 have hs := hspec ds (trodAll_len hA).1
 refine ⟨_, rfl, ds, [], p ++ [], [], p, [], hW', ?_, ?_, ?_, bel.frame _, fun h => by cases h⟩
 ·show DataW.TrodAll _ _ _ _ _ _ _ _ (s.fn H (ds ++ [])).results _
  rw [List.append_nil, hs, hres]
  exact trodAll_mk1 (shut_bool hbool _)
 ·show DataW.TrodAll _ _ _ _ _ _ _ _ (s.fn H (ds ++ [])).args _
  rw [List.append_nil, hs]
  exact trodAll_keep hlaid bel hpar hA
 ·show DataW.TrodVars _ _ _ _ s.vars (s.fn H (ds ++ [])).vars _
  rw [List.append_nil, hs, hvars]
  rfl
end
end Go.AX
namespace Go.Proofs.YtpikpjlhdkkigaaDoor
open Go.ChangeShapes Go.WideShapes Go.ChangeAt Go.RowKit Go.AX Go.Tree
set_option maxRecDepth 100000
namespace TreeSame
theorem ownK : ownKnob Tryd.prog.godebug = none := own0
theorem node_arg {H : Type} {enc : TypeId × Value → H} {W : World} {base : Nat} {args : Array Value} {ds : List (DataW H)} {p : List MemPlace} (k : Known enc Tryd.prog Tryd.f3 W base args ds p) (hb : Rows.uptoSmall H ds = true) (j : Nat) (u : Value) (hj : Tryd.f3.params[j]? = some 24) (hu : args[j]? = some u) : ∃ t : TP, TreeF W t ∧ u = nodeV t := by
 obtain ⟨d, q, hd, n, h⟩ := trodAll_get k.trod j _ u (by simpa using hj) (by simpa using hu)
 obtain ⟨cs, rfl, _⟩ := okWide_struct Tryd.underlying24 (k.val j _ u hj hu)
 have hbd : Rows.uptoBulkAll ds ≤ 1048576 := of_decide_eq_true hb
 have hdm := bulk_mem (List.mem_of_getElem? hd)
 obtain ⟨t, ht, hcs⟩ := node_in n _ _ h (Nat.le_trans hdm hbd)
 refine ⟨t, ht, ?_⟩
 have h2 : cs.toList = nodeC t := by simpa [Value.cells] using hcs
 show Value.agg cs = Value.agg (nodeC t).toArray
 rw [← h2]
theorem walk {H : Type} {enc : TypeId × Value → H} (W : World) (base : Nat) (args : Array Value) (ds : List (DataW H)) (p : List MemPlace) (k : Known enc Tryd.prog Tryd.f3 W base args ds p) (_hL : laidMetH Tryd.prog laid3 W) (hb : Rows.uptoSmall H ds = true) : Walk Tryd.prog 3 args W := by
 obtain ⟨u, v, rfl⟩ := arr2 (trodAll_len k.trod).2
 obtain ⟨a, ha, rfl⟩ := node_arg k hb 0 u rfl rfl
 obtain ⟨b, hb2, rfl⟩ := node_arg k hb 1 v rfl rfl
 exact walkH [.fact fun w => ScanF w ∧ TreeF w a ∧ TreeF w b] (fun _ he => ⟨_, List.mem_singleton.1 he, (scan_imm (scan_of k.shaped _hL)).and (ha.imm.and hb2.imm)⟩) (TreeSame_of sane15_c a b ha.k hb2.k _ fun w hw => hw.1)
theorem lifted (os : Os) (started : os.Started) (H : Type) (enc : TypeId × Value → H) (F : Stop.Interp) :
  ReturnsInHanded {} Tryd.checked os 3 .any ((Rows.OpenSpec.upto Rows.treeSameSpec).preRow enc Tryd.prog Tryd.f3 Rows.treeSameUptoRow.domain false laid3) (((Rows.OpenSpec.upto Rows.treeSameSpec).at F).post enc Tryd.prog Tryd.f3 false true false false) := by
 refine liftU (C := Tryd.checked) ownK started (by kernel_rfl) Tryd.func3
  (witness_row_atRef (enc := enc) (C := Tryd.checked) (os := os) false (World.laidAll Tryd.prog os laid3) #[.agg #[.int .i64 0, .string ⟨#[]⟩, .int .i64 0, .slice none 0 0], .agg #[.int .i64 0, .string ⟨#[]⟩, .int .i64 0, .slice none 0 0]] (World.laidAll_os _ _ _) (by kernel_rfl) (by kernel_rfl) (by kernel_rfl)
   (OpenSpec.preRow_of_cond 8 (x := ([.agg [.lit (.int .i64 0), .lit (.string []), .lit (.int .i64 0), .nil], .agg [.lit (.int .i64 0), .lit (.string []), .lit (.int .i64 0), .nil]], [], [])) (by kernel_rfl) (by kernel_rfl) (fun k hk => by cases hk; kernel_rfl) (by kernel_rfl) (door_met os _)))
  laidOut rfl (t := _) rfl (by kernel_rfl) (by kernel_rfl) ?_ walk
 intro ds hd
 match ds, hd with
 | [d0, d1], _ => rfl
theorem over : Rows.treeSameUptoRow.holds Tryd.pinned (Rows.OpenSpec.upto Rows.treeSameSpec) :=
 OpenClaim.holds_of_cond 3 Tryd.f3 rfl rfl rfl rfl rfl rfl rfl ⟨rfl, rfl, rfl, rfl, rfl⟩ rfl rfl rfl rfl rfl (by kernel_rfl) Tryd.func3 (by kernel_rfl)
  (of_decide_eq_true (by kernel_rfl)) (by unfold Func.isWrapper; first | (rw [if_pos (by decide +kernel)]; kernel_rfl) | (rw [if_neg (by decide +kernel)]; exact ⟨rfl, rfl⟩))
  (fun os started H enc _ F => by rw [OpenClaim.pre_eq_preRow]; exact lifted os started H enc F)
theorem proved : Rows.TreeSameUptoCardSaid :=
 Claim7.holds_tied_plain_at .later [] [.listed, .data] true (true, "29fd9eb2d7e21b5fe95853a691f56bbd8ffebbcc4fb86b7a23ac9d6caa3832a0") false
  over (fun _ h => by cases h) (by kernel_rfl) (fun _ h => by cases h) treeSameUpto_row_tie rfl ⟨rfl, rfl⟩ (by kernel_rfl) rfl
  (fun f fn hf hfn => by
   obtain rfl : f = 3 := Option.some.inj ((show Tryd.prog.funcNamed "cabochon/cabochonlaw15.TreeSame" = some 3 by kernel_rfl).symm.trans hf) |>.symm
   obtain rfl : fn = Tryd.f3 := (Option.some.inj (Tryd.func3.symm.trans hfn)).symm
   exact ⟨by kernel_rfl, fun j t ht => by
    have hm : t ∈ Tryd.f3.params.toList := by simpa using Array.mem_of_getElem? ht
    have hall : (Tryd.f3.params.toList.all fun u => !Tryd.prog.wantsStandIn u) = true := by kernel_rfl
    exact (show Tryd.prog.wantsStandIn t = false by simpa using List.all_eq_true.1 hall t hm)⟩)
  (by kernel_rfl)
#print axioms proved
end TreeSame
end Go.Proofs.YtpikpjlhdkkigaaDoor
