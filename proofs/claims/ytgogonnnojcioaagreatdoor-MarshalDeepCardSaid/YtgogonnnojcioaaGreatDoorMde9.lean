/-
  Lemmas (MD8 MP20 MD9 Ax54 D2 G1 MD10 MD7 Ax60).
-/
import Derived.Test.YtgogonnnojcioaaGreatDoorMde8
set_option linter.unusedVariables false
set_option linter.unusedSimpArgs false
namespace Go.Proofs.YtgogonnnojcioaaGreatDoor
open Go.AX Go.RowKit Go.Core Go.Marshal
set_option maxRecDepth 20000
def ddC (S : List UInt8) (st : PS) (p : RdP) : List Value := [.string (bs S), .int .i64 ((S.length - st.s.length : Nat) : Int), .slice p.ga p.m.length p.gc, .slice p.ca st.cells.length p.cc, .slice p.sa st.ss.length p.sc, .int .i64 st.e]
def dE (rb : Nat) (S : List UInt8) (st : PS) (p : RdP) (nm : List Qaj) : List Ent :=
 [.app 109 6 (ddC S st p) (some ⟨rb, 0, none⟩) 1 1, .app 87 5 (grC p.m) p.ga p.m.length p.gc, .fact (fun w => ∀ q ∈ nm, Qbn q w), .app 3 1 (iC st.cells) p.ca st.cells.length p.cc, .app 9 1 (strC st.ss) p.sa st.ss.length p.sc]
theorem QAx (rb : Nat) (S : List UInt8) (st : PS) (p : RdP) (nm : List Qaj) : okH (dE rb S st p nm).length (dE rb S st p nm) := Qan rfl
theorem Left.same {S : List UInt8} {a b : PS} (h : Left S a) (e : b.s = a.s) : Left S b := by unfold Left; rw [e]; exact h
theorem Qrn : ∀ (s : List UInt8) (i : Nat), ∃ u, s = u ++ rdQ i s
 | [], i => ⟨[], rfl⟩
 | x :: s, i => by
  unfold rdQ
  split
  ·exact ⟨[x], rfl⟩
  split
  ·exact ⟨[x], rfl⟩
  ·obtain ⟨u, hu⟩ := Qrn s (i + 1)
   exact ⟨x :: u, by rw [List.cons_append, <- hu]⟩
theorem Left.step {S u : List UInt8} {a b : PS} (h : Left S a) (e : a.s = u ++ b.s) : Left S b := by
 obtain ⟨v, hv⟩ := h
 exact ⟨v ++ u, by rw [hv, e, Zuz]⟩
theorem Left.num {S : List UInt8} {st : PS} (h : Left S st) (most : Nat) : Left S (numM most st).2 := by
 obtain ⟨u, hu⟩ := Qrn st.s 0
 unfold numM
 split
 ·exact h
 split
 ·exact h.step (u := u) hu
 ·exact h.step (u := u) hu
theorem Left.next {S : List UInt8} {st : PS} (h : Left S st) : Left S (Qad st).2 := by
 unfold Qad
 split
 ·exact h
 split
 ·rename_i hs
  exact h.same rfl
 ·rename_i x s hs
  exact h.step (u := [x]) hs
theorem Left.text {S : List UInt8} {st : PS} (h : Left S st) (most : Nat) : Left S (Qa7 most st).2 := by
 have hn := h.num maxN
 unfold Qa7
 split
 ·exact hn
 split
 ·exact hn.same rfl
 split
 ·exact hn.same rfl
 ·exact hn.step (u := (numM maxN st).2.s.take (numM maxN st).1) (List.take_append_drop _ _).symm
theorem Left.fail {S : List UInt8} {st : PS} (h : Left S st) (e : Int) : Left S (Qam st e) := h.same (QAp st e)
theorem Qh0 {S : List UInt8} {st : PS} (h : Left S st) (x : UInt8) : Left S (symD x st).2 := by
 have ht := h.text 40
 have hn := h.num maxN
 unfold symD
 split
 ·split
  ·exact hn
  ·exact hn.fail 4
 split
 ·simp only
  split
  ·exact ht
  split
  ·exact ht.fail 4
  ·exact ht.same rfl
 ·exact h.fail 4
theorem Qno {S : List UInt8} {st : PS} (h : Left S st) : st.s.length <= S.length := by
 obtain ⟨u, hu⟩ := h
 rw [hu, Zhz]; omega
theorem Qzv (rb : Nat) (S : List UInt8) (hS : S.length <= 1000000) (gv cv sv : Value) (st : PS) (hl : Left S st) (most : Nat) : SpecH Tryz.prog 100 [.c (.v (.pointer (some ⟨rb, 0, none⟩))), .c (.v (.int .i64 (most : Int)))] (ddE rb S gv cv sv st) (RetG (ι := Unit) (fun _ => True) (fun _ => .string (bs (Qa7 most st).1)) fun _ => ddE rb S gv cv sv (Qa7 most st).2) := by
 refine ownC hm Tryz.func100 (by kernel_rfl) rfl rfl (fun _ _ => Qpp _ _ _ _ _ _) (fun _ _ => Zcz _) ?_
 have hnum := Qo1 rb S hS gv cv sv st hl maxN
 have hl1 := hl.num maxN
 have hm1 := Qea maxN st
 unfold Qa7
 generalize numM maxN st = q at hnum hl1 hm1 ⊢
 obtain ⟨n, st1⟩ := q
 simp only at hnum hl1 hm1 ⊢
 have hm1 : n <= 1000000000000000 := hm1
 have hsz := Qal S
 have hll := Qno hl1
 refine wX ?_
 refine Qai (hnum) [0] rfl ⟨rfl, trivial⟩ rfl fun _ _ => ?_
 refine wX ?_
 refine LdN.one (a := some ⟨rb, 0, none⟩) (q := 5) (.int .i64 st1.e) rfl (fun w hw => hw.1) rfl ?_
 refine wX ?_
 refine Qbb (fun h1 => ?_) (fun h1 => ?_)
 ·rw [if_pos h1]
  refine wX ?_
  exact ⟨(), trivial, rfl, Qag _⟩
 rw [if_neg (fun h => h h1)]
 have e4 : ∀ e : Int, ({ st1 with e := e } : PS) = Qam st1 e := fun e => by unfold Qam; rw [if_pos h1]
 rw [e4 4, e4 14]
 refine wX ?_
 refine Qab (fun h2 => ?_) (fun h2 => ?_)
 ·rw [if_pos (by omega)]
  refine wX ?_
  refine Qai (Qjk rb S gv cv sv st1 4) [0] rfl ⟨rfl, trivial⟩ rfl fun _ _ => ?_
  refine wX ?_
  exact ⟨(), trivial, rfl, Qag _⟩
 rw [if_neg (by omega)]
 refine wX ?_
 refine LdN.one (a := some ⟨rb, 0, none⟩) (q := 0) (.string (bs S)) rfl (fun w hw => hw.1) rfl ?_
 refine wX ?_
 refine LdN.one (a := some ⟨rb, 0, none⟩) (q := 1) (.int .i64 ((S.length - st1.s.length : Nat) : Int)) rfl (fun w hw => hw.1) rfl ?_
 refine wX ?_
 have hv : IntKind.i64.wrap (((bs S).size : Int) - ((S.length - st1.s.length : Nat) : Int)) = (st1.s.length : Int) := by rw [hsz, Qaf (by omega)]; omega
 rw [hv]
 refine Qab (fun h3 => ?_) (fun h3 => ?_)
 ·rw [if_pos (by omega)]
  refine wX ?_
  refine Qai (Qjk rb S gv cv sv st1 14) [0] rfl ⟨rfl, trivial⟩ rfl fun _ _ => ?_
  refine wX ?_
  exact ⟨(), trivial, rfl, Qag _⟩
 rw [if_neg (by omega)]
 have hn : n <= st1.s.length := by omega
 have hdl : (st1.s.drop n).length = st1.s.length - n := List.length_drop
 refine wX ?_
 refine LdN.one (a := some ⟨rb, 0, none⟩) (q := 1) (.int .i64 ((S.length - st1.s.length : Nat) : Int)) rfl (fun w hw => hw.1) rfl ?_
 refine wX ?_
 refine EffW.appTo (i := 0) (q := 1) (ys := [_]) [.string (bs S), .int .i64 ((S.length - (st1.s.drop n).length : Nat) : Int), gv, cv, sv, .int .i64 st1.e] 6 rfl rfl rfl rfl rfl rfl rfl (Zaz rfl) ?_ rfl ?_
 ·rw [Qaf (by omega), show ((S.length - st1.s.length : Nat) : Int) + (n : Int) = ((S.length - (st1.s.drop n).length : Nat) : Int) by omega]
  rfl
 refine wX ?_
 refine LdN.one (a := some ⟨rb, 0, none⟩) (q := 0) (.string (bs S)) rfl (fun w hw => hw.1) rfl ?_
 refine wX ?_
 refine LdN.one (a := some ⟨rb, 0, none⟩) (q := 1) (.int .i64 ((S.length - (st1.s.drop n).length : Nat) : Int)) rfl (fun w hw => hw.1) rfl ?_
 refine wX ?_
 refine LdN.one (a := some ⟨rb, 0, none⟩) (q := 1) (.int .i64 ((S.length - (st1.s.drop n).length : Nat) : Int)) rfl (fun w hw => hw.1) rfl ?_
 refine wX ?_
 refine ReadW.sl_lh (S.length - st1.s.length) (S.length - st1.s.length + n) rfl (by kernel_rfl) rfl rfl rfl ⟨by rw [Qaf (by omega)]; omega, by omega, by omega, by omega⟩ ?_
 have e1 : (S.take (S.length - st1.s.length + n)).drop (S.length - st1.s.length) = st1.s.take n := by
  obtain ⟨u, hu⟩ := hl1
  have hul : S.length - st1.s.length = u.length := by rw [hu, Zhz]; omega
  rw [hul, hu, List.take_length_add_append, List.drop_left]
 rw [e1]
 refine wX ?_
 exact ⟨(), trivial, rfl, Qag _⟩
theorem QBb (a : Option Addr) (l : List (List UInt8)) (cap : Nat) (s : List UInt8) (ha : a = none -> l = []) (hl : l.length <= 1000000) :
  ∀ H, (∀ w, Qax H w -> SlAt a (l.length * 1) (strC l) w) -> SpecH Tryz.prog 123 (pvs [.slice a l.length cap, .string (bs s)]) H (Ret (.bool (decide (s ∈ l))) H) := by
 refine Qem hm Tryz.func123 (by kernel_rfl) rfl rfl ?_
 refine wX ?_
 refine Qdu Nat (fun i => i <= l.length /\ s ∉ l.take i) (fun i => mkS Tryz.f123.ntmps 0 [(0, .c (.v (.slice a l.length cap))), (1, .c (.v (.string (bs s)))), (5, .c (.v (.int .i64 (i : Int))))]) (fun i => l.length - i) rfl (fun _ => rfl) 0 ⟨Zkz _, by simp⟩ ?_ ?_
 ·exact wKK
 intro i ⟨hi, hno⟩
 refine wX ?_
 refine Qab (fun h1 => ?_) (fun h1 => ?_)
 ·obtain ⟨t, ht⟩ : ∃ t, l[i]? = some t := ⟨_, Zbz (by omega)⟩
  have hsa : a.isSome = true := by
   cases h : a with
   | none => rw [ha h] at ht; cases ht
   | some b => rfl
  refine wX ?_
  refine Nd.mk ⟨hsa, by omega, by omega⟩ ?_
  refine wX ?_
  refine LdN.one (.string (bs t)) rfl (fun w hw => hw.1) (by show (strC l)[Int.toNat _ * 1]? = _; rw [Zdz, Nat.mul_one]; exact Qcz ht) ?_
  refine wX ?_
  refine Qgv (fun h2 => ?_) (fun h2 => ?_)
  ·have h3 : t = s := eq_of_beq (show (t == s) = true from h2)
   refine wX ?_
   rw [decide_eq_true (show s ∈ l by rw [<- h3]; exact Ziz ht)]
  ·have h3 : (t == s) = false := h2
   refine wX ?_
   refine ⟨i + 1, ⟨by omega, ?_⟩, by omega, ?_, wHH⟩
   ·rw [List.take_add_one, ht]
    intro h
    rcases Zmz.1 h with h | h
    ·exact hno h
    ·have h4 : s = t := by simpa using h
     rw [h4] at h3
     simp at h3
   ·exact wKK
 ·have hie : i = l.length := by omega
  subst hie
  rw [Ztz] at hno
  refine wX ?_
  rw [decide_eq_false hno]
theorem Qr1 {f : FuncId} {args : List AV} {v : Value} (rb : Nat) (S : List UInt8) (st st' : PS) (p : RdP) (nm : List Qaj) (ha : args = rnS [0] 5 args) (keep : st'.ss = st.ss /\ st'.g = st.g /\ st'.cells = st.cells)
  (h : SpecH Tryz.prog f args (ddE rb S (.slice p.ga p.m.length p.gc) (.slice p.ca st.cells.length p.cc) (.slice p.sa st.ss.length p.sc) st) (RetG (ι := Unit) (fun _ => True) (fun _ => v) fun _ => ddE rb S (.slice p.ga p.m.length p.gc) (.slice p.ca st.cells.length p.cc) (.slice p.sa st.ss.length p.sc) st')) :
  SpecH Tryz.prog f args (dE rb S st p nm) (RetG (ι := Unit) (fun _ => True) (fun _ => v) fun _ => dE rb S st' p nm) := by
 refine Qai h [0] rfl ⟨rfl, trivial⟩ ha fun _ _ => ⟨(), trivial, rfl, ?_⟩
 obtain ⟨s', g', c', ss', e'⟩ := st'
 obtain ⟨rfl, rfl, rfl⟩ := keep
 rfl
theorem Qga (rb : Nat) (S : List UInt8) (st : PS) (p : RdP) (nm : List Qaj) (e : Int) : SpecH Tryz.prog 85 [.c (.v (.pointer (some ⟨rb, 0, none⟩))), .c (.v (.int .i64 e))] (dE rb S st p nm) (RetG (ι := Unit) (fun _ => True) (fun _ => .tuple #[]) fun _ => dE rb S (Qam st e) p nm) :=
 Qr1 rb S st _ p nm rfl (Qbj st e) (Qjk rb S _ _ _ st e)
theorem Qr0 (rb : Nat) (S : List UInt8) (hS : S.length <= 1000000) (st : PS) (p : RdP) (nm : List Qaj) (hl : Left S st) : SpecH Tryz.prog 84 [.c (.v (.pointer (some ⟨rb, 0, none⟩)))] (dE rb S st p nm) (RetG (ι := Unit) (fun _ => True) (fun _ => .int .u8 ((Qad st).1.toNat : Int)) fun _ => dE rb S (Qad st).2 p nm) :=
 Qr1 rb S st _ p nm rfl (Qc6 st) (Qx3 rb S hS _ _ _ st hl)
theorem Qh9 (rb : Nat) (S : List UInt8) (hS : S.length <= 1000000) (st : PS) (p : RdP) (nm : List Qaj) (hl : Left S st) (most : Nat) : SpecH Tryz.prog 98 [.c (.v (.pointer (some ⟨rb, 0, none⟩))), .c (.v (.int .i64 (most : Int)))] (dE rb S st p nm) (RetG (ι := Unit) (fun _ => True) (fun _ => .int .i64 ((numM most st).1 : Int)) fun _ => dE rb S (numM most st).2 p nm) :=
 Qr1 rb S st _ p nm rfl (Qb7 most st) (Qo1 rb S hS _ _ _ st hl most)
theorem Qxv (rb : Nat) (S : List UInt8) (hS : S.length <= 1000000) (st : PS) (p : RdP) (nm : List Qaj) (hl : Left S st) (most : Nat) : SpecH Tryz.prog 100 [.c (.v (.pointer (some ⟨rb, 0, none⟩))), .c (.v (.int .i64 (most : Int)))] (dE rb S st p nm) (RetG (ι := Unit) (fun _ => True) (fun _ => .string (bs (Qa7 most st).1)) fun _ => dE rb S (Qa7 most st).2 p nm) :=
 Qr1 rb S st _ p nm rfl (Qey most st) (Qzv rb S hS _ _ _ st hl most)
theorem Qjt (rb : Nat) (S : List UInt8) (hS : S.length <= 1000000) (x : UInt8) (st : PS) (p : RdP) (nm : List Qaj) (hl : Left S st) (hca : p.sa = none -> st.ss = []) (hss : st.ss.length < 100000) : SpecH Tryz.prog 99 [.c (.v (.pointer (some ⟨rb, 0, none⟩))), .c (.v (.int .u8 (x.toNat : Int)))] (dE rb S st p nm) (RetG (ι := Option Addr × Nat) (fun i => i.1 = none -> (symD x st).2.ss = []) (fun _ => .string (bs (symD x st).1)) fun i => dE rb S (symD x st).2 { p with sa := i.1, sc := i.2 } nm) := by
  refine ownC hm Tryz.func99 (by kernel_rfl) rfl rfl (fun _ _ => QAx _ _ _ _ _) (fun _ _ => Zcz _) ?_
  have htext := Qxv rb S hS st p nm hl 40
  have hnum := Qh9 rb S hS st p nm hl maxN
  have kt := Qey 40 st
  have kn := Qb7 maxN st
  unfold symD
  generalize Qa7 40 st = qt at htext kt ⊢
  generalize numM maxN st = qn at hnum kn ⊢
  obtain ⟨t, st1⟩ := qt
  obtain ⟨n, st2⟩ := qn
  simp only at htext hnum kt kn ⊢
  by_cases h59 : x = 59
  · subst h59
    rw [if_pos rfl]
    have ca2 : p.sa = none -> st2.ss = [] := fun h => by rw [kn.1]; exact hca h
    refine wX ?_
    refine Qai (hnum) [0, 1, 2, 3, 4] rfl ⟨rfl, rfl, rfl, rfl, rfl, trivial⟩ rfl fun _ _ => ?_
    refine wX ?_
    refine LdN.one (a := some ⟨rb, 0, none⟩) (q := 5) (.int .i64 st2.e) rfl (fun w hw => hw.1) rfl ?_
    refine wX ?_
    by_cases he : st2.e = 0
    · rw [show (st2.e == 0) = true by rw [he]; rfl]
      refine wX ?_
      refine LdN.one (a := some ⟨rb, 0, none⟩) (q := 4) (.slice p.sa st2.ss.length p.sc) rfl (fun w hw => hw.1) rfl ?_
      refine wX ?_
      refine Qab (fun hlt => ?_) (fun hlt => ?_)
      · rw [if_neg (fun h => by have := h.2; omega)]
        refine wX ?_
        refine Qai (Qga rb S st2 p nm 4) [0, 1, 2, 3, 4] rfl ⟨rfl, rfl, rfl, rfl, rfl, trivial⟩ rfl fun _ _ => ?_
        have he4 : (Qam st2 4).e = 4 := Qcq he 4
        refine wX ?_
        refine LdN.one (a := some ⟨rb, 0, none⟩) (q := 5) (.int .i64 (Qam st2 4).e) rfl (fun w hw => hw.1) rfl ?_
        rw [he4]
        refine wX ?_
        exact ⟨(p.sa, p.sc), (fun h => by rw [(Qbj _ _).1]; exact ca2 h), rfl, Qag _⟩
      · have hn : n < st2.ss.length := by omega
        rw [if_pos ⟨he, hn⟩]
        have hsa : p.sa.isSome = true := by
          cases h : p.sa with
          | none =>
            rw [ca2 h] at hn
            exact absurd hn (Nat.not_lt_zero _)
          | some b => rfl
        have hget : st2.ss[n]? = some (st2.ss.getD n []) := by rw [Zlz, Zbz hn]; rfl
        refine wX ?_
        refine LdN.one (a := some ⟨rb, 0, none⟩) (q := 5) (.int .i64 st2.e) rfl (fun w hw => hw.1) rfl ?_
        rw [he]
        refine wX ?_
        refine LdN.one (a := some ⟨rb, 0, none⟩) (q := 4) (.slice p.sa st2.ss.length p.sc) rfl (fun w hw => hw.1) rfl ?_
        refine wX ?_
        refine Nd.mk ⟨hsa, by omega, by omega⟩ ?_
        refine wX ?_
        refine LdN.one (.string (bs (st2.ss.getD n []))) rfl (fun w hw => hw.2.2.2.2.1) (by show (strC st2.ss)[Int.toNat _ * 1]? = _; rw [Zdz, Nat.mul_one]; exact Qcz hget) ?_
        refine wX ?_
        exact ⟨(p.sa, p.sc), ca2, rfl, Qag _⟩
    · rw [show (st2.e == 0) = false by simpa using he, if_neg (fun h => he h.1)]
      have e0 : Qam st2 4 = st2 := Qel he 4
      rw [e0]
      refine wX ?_
      refine LdN.one (a := some ⟨rb, 0, none⟩) (q := 5) (.int .i64 st2.e) rfl (fun w hw => hw.1) rfl ?_
      refine wX ?_
      refine Qbb (fun _ => ?_) (fun h => absurd h he)
      refine wX ?_
      exact ⟨(p.sa, p.sc), ca2, rfl, Qag _⟩
  rw [if_neg h59]
  have e2 : ((x.toNat : Int) == 59) = false := by
    rw [beq_eq_false_iff_ne]
    intro h5
    exact h59 (UInt8.toNat_inj.1 (by have : x.toNat = 59 := by omega
                                     rw [this]; rfl))
  by_cases h58 : x = 58
  · subst h58
    rw [if_pos rfl]
    have ca1 : p.sa = none -> st1.ss = [] := fun h => by rw [kt.1]; exact hca h
    have hl1 : st1.ss.length < 100000 := by rw [kt.1]; exact hss
    refine wX ?_
    refine Qai (htext) [0, 1, 2, 3, 4] rfl ⟨rfl, rfl, rfl, rfl, rfl, trivial⟩ rfl fun _ _ => ?_
    refine wX ?_
    refine LdN.one (a := some ⟨rb, 0, none⟩) (q := 5) (.int .i64 st1.e) rfl (fun w hw => hw.1) rfl ?_
    refine wX ?_
    by_cases he : st1.e = 0
    · rw [show (st1.e == 0) = true by rw [he]; rfl, if_neg (fun h => h he)]
      refine wX ?_
      refine LdN.one (a := some ⟨rb, 0, none⟩) (q := 4) (.slice p.sa st1.ss.length p.sc) rfl (fun w hw => hw.1) rfl ?_
      refine wX ?_
      refine Qao (QBb p.sa st1.ss p.sc t ca1 (by omega) _ (fun w hw => hw.2.2.2.2.1)) ?_
      refine wX ?_
      refine Qab (fun hm => ?_) (fun hm => ?_)
      · rw [if_pos hm]
        refine wX ?_
        refine Qai (Qga rb S st1 p nm 4) [0, 1, 2, 3, 4] rfl ⟨rfl, rfl, rfl, rfl, rfl, trivial⟩ rfl fun _ _ => ?_
        have he4 : (Qam st1 4).e = 4 := Qcq he 4
        refine wX ?_
        refine LdN.one (a := some ⟨rb, 0, none⟩) (q := 5) (.int .i64 (Qam st1 4).e) rfl (fun w hw => hw.1) rfl ?_
        rw [he4]
        refine wX ?_
        exact ⟨(p.sa, p.sc), (fun h => by rw [(Qbj _ _).1]; exact ca1 h), rfl, Qag _⟩
      · rw [if_neg hm]
        refine wX ?_
        refine LdN.one (a := some ⟨rb, 0, none⟩) (q := 5) (.int .i64 st1.e) rfl (fun w hw => hw.1) rfl ?_
        refine wX ?_
        rw [show (st1.e == 0) = true by rw [he]; rfl]
        refine wX ?_
        refine LdN.one (a := some ⟨rb, 0, none⟩) (q := 4) (.slice p.sa (st1).ss.length p.sc) rfl (fun w hw => hw.1) rfl ?_
        refine wX ?_
        refine Nd.mk ⟨Zcz 1, rfl, rfl⟩ ?_
        (conv => whnf)
        refine AppN.grow 4 (strC (st1).ss) [.string (bs t)] rfl rfl ⟨Zcz 1, ⟨by show ((st1).ss.length + 1) * 16 <= _; omega, by omega⟩, by decide⟩ fun b' cap' h1 h2 => ?_
        refine wX ?_
        refine EffW.appTo (i := 0) (q := 4) (ys := [_]) (ddC S { (st1) with ss := (st1).ss ++ [t] } { p with sa := some ⟨b', 0, none⟩, sc := cap' }) 6 rfl rfl rfl rfl rfl rfl rfl (Zaz rfl) (by simp [ddC]) rfl ?_
        refine wX ?_
        refine ⟨(some ⟨b', 0, none⟩, cap'), (fun h => by cases h), rfl, Qaa _, Qaa _, Qaa _, Qaa _, ?_, trivial⟩
        rw [show strC (st1).ss ++ [.string (bs t)] = strC ((st1).ss ++ [t]) by simp [strC], show (st1).ss.length + 1 = ((st1).ss ++ [t]).length by simp]
        exact Qaa _
    · rw [show (st1.e == 0) = false by simpa using he, if_pos he]
      refine wX ?_
      refine LdN.one (a := some ⟨rb, 0, none⟩) (q := 5) (.int .i64 st1.e) rfl (fun w hw => hw.1) rfl ?_
      refine wX ?_
      rw [show (st1.e == 0) = false by simpa using he]
      refine wX ?_
      exact ⟨(p.sa, p.sc), ca1, rfl, Qag _⟩
  · rw [if_neg h58]
    have e1 : ((x.toNat : Int) == 58) = false := by
      rw [beq_eq_false_iff_ne]
      intro h5
      exact h58 (UInt8.toNat_inj.1 (by have : x.toNat = 58 := by omega
                                       rw [this]; rfl))
    refine wX ?_
    rw [e2]
    refine wX ?_
    rw [show ((x.toNat : Int) != 58) = true by rw [bne, e1]; rfl]
    refine wX ?_
    refine Qai (Qga rb S st p nm 4) [0, 1, 2, 3, 4] rfl ⟨rfl, rfl, rfl, rfl, rfl, trivial⟩ rfl fun _ _ => ?_
    refine wX ?_
    exact ⟨(p.sa, p.sc), (fun h => by rw [(Qbj _ _).1]; exact hca h), rfl, Qag _⟩
end Go.Proofs.YtgogonnnojcioaaGreatDoor
namespace Go.Marshal
open Go.Core
def putI (k : Nat) (i : Int) (st : St) : St := { st with g := st.g.set k { st.g.getD k nilC with items := (st.g.getD k nilC).items ++ [i] } }
def putA (k : Nat) (t : B) (i : Int) (st : St) : St := { st with g := st.g.set k { st.g.getD k nilC with names := (st.g.getD k nilC).names ++ [t], items := (st.g.getD k nilC).items ++ [i] } }
def Qdv (f : St -> Except Int (Int × St)) (k : Nat) : Nat -> St -> Except Int (Unit × St)
 | 0, st => .ok ((), st)
 | n + 1, st => bnd (f st) fun i st => Qdv f k n (putI k i st)
def Qen (f : St -> Except Int (Int × St)) (k : Nat) : Nat -> St -> Except Int (Unit × St)
 | 0, st => .ok ((), st)
 | n + 1, st => bnd (Qc2 st) fun x st => bnd (symS x st) fun t st =>
  if Go.Scan.iiB t = true /\ t ∉ (st.g.getD k nilC).names then bnd (f st) fun i st => Qen f k n (putA k t i st) else .error 4
def addS (c : Cell) (st : St) : St := { st with g := st.g ++ [c] }
def Qgm (k : Int) (st : St) : St := ⟨st.s, st.g ++ [⟨k, 0, [], [], []⟩], st.cells ++ [(st.g.length : Int)], st.ss⟩
def setT (k : Nat) (t : B) (st : St) : St := { st with g := st.g.set k { st.g.getD k nilC with text := t } }
def objD (f : St -> Except Int (Int × St)) (k : Nat) (st : St) : Except Int (Unit × St) :=
 bnd (Qc2 st) fun y st => bnd (symS y st) fun t st => if Go.Scan.icB t = true then bnd (numS maxN (setT k t st)) fun n st => Qen f k n st else .error 4
def Qx6 (f : St -> Except Int (Int × St)) (x : UInt8) (st : St) : Except Int (Unit × St) :=
 if x = 48 then .ok ((), addS ⟨0, 0, [], [], []⟩ st)
 else if x = 84 then .ok ((), addS ⟨1, 0, [], [], []⟩ st)
 else if x = 70 then .ok ((), addS ⟨2, 0, [], [], []⟩ st)
 else if x = 105 then bnd (numS (2 * maxN) st) fun n st => .ok ((), addS ⟨3, Qcr n, [], [], []⟩ st)
 else if x = 34 then bnd (Qe4 maxN (Qgm 4 st)) fun t st' => .ok ((), setT st.g.length t st')
 else if x = 58 \/ x = 59 then bnd (symS x st) fun t st => .ok ((), addS ⟨5, 0, t, [], []⟩ st)
 else if x = 91 then bnd (numS maxN (Qgm 6 st)) fun n st' => Qdv f st.g.length n st'
 else if x = 123 then bnd (numS maxN (Qgm 7 st)) fun n st' => Qdv f st.g.length (2 * n) st'
 else objD f st.g.length (Qgm 8 st)
def Qc8 : Nat -> St -> Except Int (Int × St)
 | 0, _ => .error 99
 | n + 1, st => bnd (Qc2 st) fun x st =>
  if x = 64 then bnd (numS maxN st) fun k st => match st.cells[k]? with
   | some c => .ok (c, st)
   | none => .error 4
  else if 500 <= st.g.length \/ x ∉ Qbl then .error 4
  else bnd (Qx6 (Qc8 n) x st) fun _ st' => .ok ((st.g.length : Int), st')
theorem Qig {l : List Cell} {k : Nat} (c : Cell) (h : k < l.length) : (l.set k c).getD k nilC = c := by
 rw [Zlz, List.getElem?_set_self h]; rfl
theorem Qyv {l t : List Cell} {k : Nat} (c : Cell) (h : k < l.length) : (l ++ t).set k c = l.set k c ++ t := by
 rw [List.set_append_left _ _ h]
theorem FrS.at {α : Type} {f : St -> Except Int (α × St)} (hf : FrS f) (k : Nat) (c : Cell) (st : St) (h : k < st.g.length) : f (gS st (st.g.set k c)) = match f st with
  | .ok (a, st') => .ok (a, gS st' (st'.g.set k c))
  | .error e => .error e := by
 cases hr : f st with
 | error e => exact hf.err st e hr _ (by simp)
 | ok p =>
  obtain ⟨a, st'⟩ := p
  obtain ⟨tl, e1, k1⟩ := hf.ok st a st' hr
  rw [k1 _ (by simp)]
  simp only
  rw [e1, Qyv c h]
theorem FrS.grows {α : Type} {f : St -> Except Int (α × St)} (hf : FrS f) {st st' : St} {a : α} (h : f st = .ok (a, st')) : st.g.length <= st'.g.length := by
 obtain ⟨tl, e1, _⟩ := hf.ok st a st' h
 rw [e1, Zhz]; omega
theorem Qo9 {f : St -> Except Int (Int × St)} (hf : FrS f) (k : Nat) (c : Cell) : ∀ (n : Nat) (l : List Int) (st : St), k < st.g.length -> Qdv f k n (gS st (st.g.set k { c with items := l })) = bnd (Qdm f n l st) fun l' st' => .ok ((), gS st' (st'.g.set k { c with items := l' }))
 | 0, l, st, h => rfl
 | n + 1, l, st, h => by
  unfold Qdv Qdm
  rw [hf.at k _ st h]
  cases hr : f st with
  | error e => rfl
  | ok p =>
   obtain ⟨i, st'⟩ := p
   have h2 := Nat.lt_of_lt_of_le h (hf.grows hr)
   show Qdv f k n (putI k i (gS st' (st'.g.set k _))) = bnd (Qdm f n (l ++ [i]) st') _
   rw [<- Qo9 hf k c n (l ++ [i]) st' h2]
   congr 1
   unfold putI gS
   simp only [Qig _ h2, List.set_set]
theorem Qpw {f : St -> Except Int (Int × St)} (hf : FrS f) (k : Nat) (c : Cell) : ∀ (n : Nat) (ns : List B) (l : List Int) (st : St), k < st.g.length -> Qen f k n (gS st (st.g.set k { c with names := ns, items := l })) = bnd (Qdq f n ns l st) fun p st' => .ok ((), gS st' (st'.g.set k { c with names := p.1, items := p.2 }))
 | 0, ns, l, st, h => rfl
 | n + 1, ns, l, st, h => by
  unfold Qen Qdq
  rw [FrS.next.at k _ st h]
  cases hr : Qc2 st with
  | error e => rfl
  | ok p =>
   obtain ⟨x, s1⟩ := p
   have h1 := Nat.lt_of_lt_of_le h (FrS.next.grows hr)
   show bnd (symS x (gS s1 (s1.g.set k { c with names := ns, items := l }))) _ = bnd (bnd (symS x s1) _) _
   rw [(FrS.sym x).at k _ s1 h1]
   cases hr2 : symS x s1 with
   | error e => rfl
   | ok p =>
    obtain ⟨t, s2⟩ := p
    have h2 := Nat.lt_of_lt_of_le h1 ((FrS.sym x).grows hr2)
    have e0 : ((gS s2 (s2.g.set k { c with names := ns, items := l })).g.getD k nilC).names = ns := by
     show ((s2.g.set k { c with names := ns, items := l }).getD k nilC).names = ns
     rw [Qig _ h2]
    show (if Go.Scan.iiB t = true /\ t ∉ ((gS s2 (s2.g.set k { c with names := ns, items := l })).g.getD k nilC).names then _ else _) = bnd (if Go.Scan.iiB t = true /\ t ∉ ns then _ else _) _
    rw [e0]
    by_cases hc : Go.Scan.iiB t = true /\ t ∉ ns
    ·rw [if_pos hc, if_pos hc, hf.at k _ s2 h2]
     cases hr3 : f s2 with
     | error e => rfl
     | ok p =>
      obtain ⟨i, s3⟩ := p
      have h3 := Nat.lt_of_lt_of_le h2 (hf.grows hr3)
      show Qen f k n (putA k t i (gS s3 (s3.g.set k _))) = bnd (Qdq f n (ns ++ [t]) (l ++ [i]) s3) _
      rw [<- Qpw hf k c n (ns ++ [t]) (l ++ [i]) s3 h3]
      congr 1
      unfold putA gS
      simp only [Qig _ h3, List.set_set]
    ·rw [if_neg hc, if_neg hc]
     rfl
theorem Qm5 (g : List Cell) (c d : Cell) : (g ++ [c]).set g.length d = g ++ [d] := by
 rw [List.set_append_right _ _ (Zcz _), Nat.sub_self]; rfl
theorem Qqh {x : UInt8} (h : x ∈ Qi1) (st : St) : Qb1 x st = ⟨st.s, st.g ++ [nilC], st.cells ++ [(st.g.length : Int)], st.ss⟩ := by unfold Qb1; rw [if_pos h]
theorem Qng {x : UInt8} (h : x ∈ Qi1) (k : Int) (st : St) : Qgm k st = gS (Qb1 x st) ((Qb1 x st).g.set st.g.length ⟨k, 0, [], [], []⟩) := by
 rw [Qqh h]
 unfold Qgm gS
 simp only [Qm5]
theorem Qnf (x : UInt8) (st : St) : st.g.length < (Qb1 x st).g.length := by
 show _ < (st.g ++ [nilC]).length
 simp
structure Free {α : Type} (f : St -> Except Int (α × St)) : Prop where
 eq : ∀ st g2, f (gS st g2) = match f st with
  | .ok (a, st') => .ok (a, gS st' g2)
  | .error e => .error e
 keep : ∀ st a st', f st = .ok (a, st') -> st'.g = st.g
theorem Free.num (most : Nat) : Free (numS most) := by
 refine ⟨fun st g2 => ?_, fun st a st' h => ?_⟩
 ·unfold numS gS
  cases rd most st.s <;> rfl
 ·unfold numS at h
  split at h
  ·cases h
  ·cases h; rfl
theorem Free.text (most : Nat) : Free (Qe4 most) := by
 refine ⟨fun st g2 => ?_, fun st a st' h => ?_⟩
 ·unfold Qe4 gS
  cases rdT most st.s <;> rfl
 ·unfold Qe4 at h
  split at h
  ·cases h
  ·cases h; rfl
theorem Free.sym (x : UInt8) : Free (symS x) := by
 refine ⟨fun st g2 => ?_, fun st a st' h => ?_⟩
 ·unfold symS gS
  cases Qgk x st.ss st.s <;> rfl
 ·unfold symS at h
  split at h
  ·cases h
  ·cases h; rfl
theorem Free.next : Free Qc2 := by
 refine ⟨fun st g2 => ?_, fun st a st' h => ?_⟩
 ·unfold Qc2 gS
  cases st.s <;> rfl
 ·unfold Qc2 at h
  split at h
  ·cases h
  ·cases h; rfl
theorem Qo0 {x : UInt8} (hx : x ∉ Qi1) (st : St) : Qb1 x st = gS st (st.g ++ [nilC]) := by unfold Qb1 gS; rw [if_neg hx]
theorem Qqm {α : Type} {f : St -> Except Int (α × St)} (hf : Free f) {x : UInt8} (hx : x ∉ Qi1) (c : α -> Cell) (st : St) :
  (bnd (bnd (f st) fun a st => .ok ((), addS (c a) st)) fun _ st' => .ok ((st.g.length : Int), st')) = bnd (bnd (f (Qb1 x st)) fun a st => .ok (c a, st)) fun c st' => .ok ((st.g.length : Int), setS st.g.length c st') := by
 rw [Qo0 hx, hf.eq]
 cases hr : f st with
 | error e => rfl
 | ok p =>
  obtain ⟨a, s1⟩ := p
  have hg := hf.keep st a s1 hr
  show Except.ok ((st.g.length : Int), addS (c a) s1) = Except.ok ((st.g.length : Int), setS st.g.length (c a) (gS s1 (st.g ++ [nilC])))
  unfold addS setS gS
  simp only [hg, Qm5]
theorem Qny {x : UInt8} (hx : x ∉ Qi1) (c : Cell) (st : St) : (.ok ((st.g.length : Int), addS c st) : Except Int (Int × St)) = .ok ((st.g.length : Int), setS st.g.length c (Qb1 x st)) := by
 rw [Qo0 hx]
 unfold addS setS gS
 simp only [Qm5]
theorem Qyp (st : St) : (bnd (bnd (Qe4 maxN (Qgm 4 st)) fun t st' => .ok ((), setT st.g.length t st')) fun _ st' => .ok ((st.g.length : Int), st')) = bnd (bnd (Qe4 maxN (Qb1 34 st)) fun t st' => .ok (⟨4, 0, t, [], []⟩, st')) fun c st' => .ok ((st.g.length : Int), setS st.g.length c st') := by
 have hl := Qnf 34 st
 rw [Qng (x := 34) (by decide), (Free.text maxN).eq]
 cases hr : Qe4 maxN (Qb1 34 st) with
 | error e => rfl
 | ok p =>
  obtain ⟨t, s1⟩ := p
  have hg := (Free.text maxN).keep _ _ _ hr
  show Except.ok ((st.g.length : Int), setT st.g.length t (gS s1 ((Qb1 34 st).g.set st.g.length ⟨4, 0, [], [], []⟩))) = Except.ok ((st.g.length : Int), setS st.g.length ⟨4, 0, t, [], []⟩ s1)
  unfold setT setS gS
  simp only [Qig _ hl, List.set_set, hg]
theorem Qvb {f : St -> Except Int (Int × St)} (hf : FrS f) {x : UInt8} (hx : x ∈ Qi1) (k : Int) (m : Nat -> Nat) (st : St) : (bnd (bnd (numS maxN (Qgm k st)) fun n st' => Qdv f st.g.length (m n) st') fun _ st' => .ok ((st.g.length : Int), st')) = bnd (bnd (numS maxN (Qb1 x st)) fun n st' => bnd (Qdm f (m n) [] st') fun l st' => .ok (⟨k, 0, [], [], l⟩, st')) fun c st' => .ok ((st.g.length : Int), setS st.g.length c st') := by
 have hl := Qnf x st
 rw [Qng hx, (Free.num maxN).eq]
 cases hr : numS maxN (Qb1 x st) with
 | error e => rfl
 | ok p =>
  obtain ⟨n, s1⟩ := p
  have hg := (Free.num maxN).keep _ _ _ hr
  have h9 := Qo9 hf st.g.length ⟨k, 0, [], [], []⟩ (m n) [] s1 (by rw [hg]; exact hl)
  rw [hg] at h9
  show bnd (Qdv f st.g.length (m n) (gS s1 ((Qb1 x st).g.set st.g.length ⟨k, 0, [], [], []⟩))) _ = bnd (bnd (Qdm f (m n) [] s1) _) _
  rw [h9]
  cases Qdm f (m n) [] s1 with
  | error e => rfl
  | ok q => rfl
theorem QAa {f : St -> Except Int (Int × St)} (hf : FrS f) (st : St) : (bnd (objD f st.g.length (Qgm 8 st)) fun _ st' => .ok ((st.g.length : Int), st')) = bnd (bnd (Qc2 (Qb1 111 st)) fun y st => bnd (symS y st) fun t st => if Go.Scan.icB t = true then bnd (numS maxN st) fun n st => bnd (Qdq f n [] [] st) fun p st => .ok ((⟨8, 0, t, p.1, p.2⟩ : Cell), st) else .error 4) fun c st' => .ok ((st.g.length : Int), setS st.g.length c st') := by
 have hl := Qnf 111 st
 unfold objD
 rw [Qng (x := 111) (by decide), Free.next.eq]
 cases hr : Qc2 (Qb1 111 st) with
 | error e => rfl
 | ok p =>
  obtain ⟨y, s1⟩ := p
  have hg1 := Free.next.keep _ _ _ hr
  show bnd (bnd (symS y (gS s1 _)) _) _ = bnd (bnd (symS y s1) _) _
  rw [(Free.sym y).eq]
  cases hr2 : symS y s1 with
  | error e => rfl
  | ok p =>
   obtain ⟨t, s2⟩ := p
   have hg2 := (Free.sym y).keep _ _ _ hr2
   show bnd (if Go.Scan.icB t = true then _ else _) _ = bnd (if Go.Scan.icB t = true then _ else _) _
   by_cases hc : Go.Scan.icB t = true
   ·rw [if_pos hc, if_pos hc]
    have hs : setT st.g.length t (gS s2 ((Qb1 111 st).g.set st.g.length ⟨8, 0, [], [], []⟩)) = gS s2 ((Qb1 111 st).g.set st.g.length ⟨8, 0, t, [], []⟩) := by
     unfold setT gS
     simp only [Qig _ hl, List.set_set]
    rw [hs, (Free.num maxN).eq]
    cases hr3 : numS maxN s2 with
    | error e => rfl
    | ok p =>
     obtain ⟨n, s3⟩ := p
     have hg3 := (Free.num maxN).keep _ _ _ hr3
     have hg : s3.g = (Qb1 111 st).g := by rw [hg3, hg2, hg1]
     have h9 := Qpw hf st.g.length ⟨8, 0, t, [], []⟩ n [] [] s3 (by rw [hg]; exact hl)
     rw [hg] at h9
     show bnd (Qen f st.g.length n (gS s3 ((Qb1 111 st).g.set st.g.length ⟨8, 0, t, [], []⟩))) _ = bnd (bnd (Qdq f n [] [] s3) _) _
     rw [h9]
     cases Qdq f n [] [] s3 with
     | error e => rfl
     | ok q => rfl
   ·rw [if_neg hc, if_neg hc]
    rfl
theorem Qr9 : ∀ n : Nat, Qc8 n = Qek n
 | 0 => rfl
 | n + 1 => by
  funext st
  have ih := Qr9 n
  have hf := FrS.form n
  unfold Qc8 Qek
  refine Marshal.bnd_congr fun x st _ => ?_
  by_cases h64 : x = 64
  ·rw [if_pos h64, if_pos h64]
   exact Marshal.bnd_congr fun k st _ => by cases st.cells[k]? <;> rfl
  rw [if_neg h64, if_neg h64]
  by_cases hc : 500 <= st.g.length \/ x ∉ Qbl
  ·rw [if_pos hc, if_pos hc]
  rw [if_neg hc, if_neg hc, ih]
  have hb : x ∈ Qbl := Classical.not_not.1 fun h => hc (.inr h)
  unfold Qbl at hb
  simp only [List.mem_cons, List.not_mem_nil, or_false] at hb
  rcases hb with rfl | rfl | rfl | rfl | rfl | rfl | rfl | rfl | rfl | rfl
  ·exact Qny (x := 48) (by decide) _ st
  ·exact Qny (x := 84) (by decide) _ st
  ·exact Qny (x := 70) (by decide) _ st
  ·exact Qqm (Free.num (2 * maxN)) (x := 105) (by decide) (fun n => ⟨3, Qcr n, [], [], []⟩) st
  ·exact Qyp st
  ·exact Qqm (Free.sym 58) (x := 58) (by decide) (fun t => ⟨5, 0, t, [], []⟩) st
  ·exact Qqm (Free.sym 59) (x := 59) (by decide) (fun t => ⟨5, 0, t, [], []⟩) st
  ·exact Qvb hf (x := 91) (by decide) 6 (fun n => n) st
  ·exact Qvb hf (x := 123) (by decide) 7 (fun n => 2 * n) st
  ·exact QAa hf st
def Tel {α : Type} (R : Except Int (α × St)) (v : α) (st : PS) : Prop := match R with
 | .ok (a, s) => v = a /\ st = ofS s
 | .error e => st.e = e /\ e ≠ 0
theorem Tel.live {α : Type} {R : Except Int (α × St)} {v : α} {st : PS} (h : Tel R v st) (h0 : st.e = 0) : R = .ok (v, toS st) := by
 cases R with
 | error e => exact absurd (h.1.symm.trans h0) h.2
 | ok p =>
  obtain ⟨a, s⟩ := p
  obtain ⟨rfl, h2⟩ := h
  rw [h2]
  rfl
theorem Tel.dead {α : Type} {R : Except Int (α × St)} {v : α} {st : PS} (h : Tel R v st) (hd : st.e ≠ 0) : R = .error st.e := by
 cases R with
 | error e => rw [h.1]
 | ok p =>
  obtain ⟨a, s⟩ := p
  exact absurd (by rw [h.2]; rfl) hd
theorem Tel.ok {α : Type} {v : α} {st : PS} (h0 : st.e = 0) : Tel (.ok (v, toS st)) v st := ⟨rfl, (Qqj h0).symm⟩
theorem Ref.tel {α : Type} {F : St -> Except Int (α × St)} {M : PS -> α × PS} (h : Ref F M) {st : PS} (h0 : st.e = 0) : Tel (F (toS st)) (M st).1 (M st).2 := by
 cases hr : F (toS st) with
 | error e => exact h.err st e h0 hr
 | ok p =>
  obtain ⟨a, s⟩ := p
  rw [h.ok st a s h0 hr]
  exact ⟨rfl, rfl⟩
theorem Tel.bnd {α β : Type} {R : Except Int (α × St)} {v : α} {st : PS} (h : Tel R v st) {G : α -> St -> Except Int (β × St)} {w : β} {st2 : PS} (hl : st.e = 0 -> Tel (G v (toS st)) w st2) (hd : st.e ≠ 0 -> st2.e = st.e) : Tel (Marshal.bnd R G) w st2 := by
 by_cases h0 : st.e = 0
 ·rw [h.live h0]
  exact hl h0
 ·rw [h.dead h0]
  exact ⟨hd h0, h0⟩
theorem Qqc (x : UInt8) (st : PS) : Le (if x = 58 then 1 else 0) st (symD x st).2 := by
 have hn := Qc4 maxN st
 have ht := Qkh 40 st
 unfold symD
 by_cases h59 : x = 59
 ·rw [if_pos h59, if_neg (by rw [h59]; decide)]
  split
  ·exact hn
  ·exact hn.trans (Qcj _ 4)
 rw [if_neg h59]
 by_cases h58 : x = 58
 ·rw [if_pos h58, if_pos h58]
  show Le 1 st (if (Qa7 40 st).2.e ≠ 0 then (Qa7 40 st).2 else if (Qa7 40 st).1 ∈ (Qa7 40 st).2.ss then Qam (Qa7 40 st).2 4 else { (Qa7 40 st).2 with ss := (Qa7 40 st).2.ss ++ [(Qa7 40 st).1] })
  split
  ·exact ht.mono (by omega)
  split
  ·exact (ht.trans (Qcj _ 4)).mono (by omega)
  ·exact ⟨by have := ht.pot; simp; omega, ht.s, ht.g, ht.g5, ht.cl⟩
 ·rw [if_neg h58, if_neg h58]
  exact Qcj st 4
theorem Qfe (x : UInt8) (st : PS) : (symD x st).2.g = st.g /\ (symD x st).2.cells = st.cells := by
 have hn : (numM maxN st).2.g = st.g /\ (numM maxN st).2.cells = st.cells := by
  unfold numM
  split
  ·exact ⟨rfl, rfl⟩
  split <;> exact ⟨rfl, rfl⟩
 have hf : ∀ (a : PS) (e : Int), (Qam a e).g = a.g /\ (Qam a e).cells = a.cells := fun a e => by unfold Qam; split <;> exact ⟨rfl, rfl⟩
 have ht : (Qa7 40 st).2.g = st.g /\ (Qa7 40 st).2.cells = st.cells := by
  unfold Qa7
  split
  ·exact hn
  split
  ·exact hn
  split <;> exact hn
 unfold symD
 split
 ·split
  ·exact hn
  ·exact ⟨(hf _ 4).1.trans hn.1, (hf _ 4).2.trans hn.2⟩
 split
 ·simp only
  split
  ·exact ht
  split
  ·exact ⟨(hf _ 4).1.trans ht.1, (hf _ 4).2.trans ht.2⟩
  ·exact ht
 ·exact hf st 4
theorem Qho (st : PS) : Le 0 st (symD (Qad st).1 (Qad st).2).2 := by
 have h := Qqc (Qad st).1 (Qad st).2
 by_cases hx : (Qad st).1 = 58
 ·rw [if_pos hx] at h
  obtain ⟨h1, h2, h3, h4, _⟩ := Qk2 (st := st) (.inr (by rw [hx]; decide))
  have h5 := h.pot
  have h6 := h.cl
  rw [h2] at h5
  rw [h3, h4] at h6
  exact ⟨by omega, Zwz h.s (by omega), by rw [<- h3]; exact h.g, fun h0 => h.g5 (by rw [h3]; exact h0), h6⟩
 ·rw [if_neg hx] at h
  exact (Qdd st).trans h
theorem Qhz (x : UInt8) (st : PS) (hs : st.s.length <= 30000) (hw : ∀ t ∈ st.ss, t.length <= 30000) : (symD x st).1.length <= 30000 /\ ∀ t ∈ (symD x st).2.ss, t.length <= 30000 := by
 have hk : (numM maxN st).2.ss = st.ss := by
  unfold numM
  split
  ·rfl
  split <;> rfl
 have hf : ∀ (a : PS) (e : Int), (Qam a e).ss = a.ss := fun a e => by unfold Qam; split <;> rfl
 have htk : (Qa7 40 st).2.ss = st.ss := by
  unfold Qa7
  split
  ·exact hk
  split
  ·exact hk
  split <;> exact hk
 have htl := Qhx 40 st
 unfold symD
 split
 ·split
  ·rename_i h
   refine ⟨?_, by rw [hk]; exact hw⟩
   show ((numM maxN st).2.ss.getD (numM maxN st).1 []).length <= _
   rw [hk] at h ⊢
   rw [Zlz, Zbz h.2]
   exact hw _ (List.getElem_mem _)
  ·exact ⟨Zkz _, by rw [hf, hk]; exact hw⟩
 split
 ·refine ⟨Zwz htl hs, ?_⟩
  simp only
  split
  ·rw [htk]; exact hw
  split
  ·rw [hf, htk]; exact hw
  ·intro t ht
   simp only [htk] at ht
   rcases Zmz.1 ht with h | h
   ·exact hw t h
   ·rw [Zgz.1 h]; omega
 ·exact ⟨Zkz _, by rw [hf]; exact hw⟩
end Go.Marshal
namespace Go.Proofs.YtgogonnnojcioaaGreatDoor
open Go.AX Go.RowKit Go.Core Go.Marshal
set_option maxRecDepth 20000
structure OkD (st : PS) (p : RdP) : Prop where
 g : p.m.map (·.c) = st.g
 ga : p.ga = none -> p.m = []
 ca : p.ca = none -> st.cells = []
 sa : p.sa = none -> st.ss = []
 sw : ∀ t ∈ st.ss, t.length <= 30000
 gx : p.ga = none \/ ∃ b : Nat, p.ga = some ⟨b, 0, none⟩
theorem OkD.same {st st' : PS} {p : RdP} (ok : OkD st p) (h : st'.ss = st.ss /\ st'.g = st.g /\ st'.cells = st.cells) : OkD st' p :=
 ⟨by rw [h.2.1]; exact ok.g, ok.ga, by rw [h.2.2]; exact ok.ca, by rw [h.1]; exact ok.sa, by rw [h.1]; exact ok.sw, ok.gx⟩
theorem OkD.sym {st : PS} {p : RdP} (ok : OkD st p) (hs : st.s.length <= 30000) (x : UInt8) {i : Option Addr × Nat} (hi : i.1 = none -> (symD x st).2.ss = []) : OkD (symD x st).2 { p with sa := i.1, sc := i.2 } :=
 ⟨by rw [(Qfe x st).1]; exact ok.g, ok.ga, by rw [(Qfe x st).2]; exact ok.ca, hi, (Qhz x st hs ok.sw).2, ok.gx⟩
abbrev plP (c : Cell) : Qaj := ⟨c, none, 0, none, 0⟩
def addP (st : PS) (c : Cell) : PS := { st with g := st.g ++ [c] }
theorem OkD.add {st : PS} {p : RdP} (ok : OkD st p) (c : Cell) (b gc : Nat) : OkD (addP st c) { p with m := p.m ++ [plP c], ga := some ⟨b, 0, none⟩, gc := gc } :=
 ⟨by show (p.m ++ [plP c]).map (·.c) = st.g ++ [c]; rw [List.map_append, ok.g]; rfl, (fun h => by cases h), ok.ca, ok.sa, ok.sw, .inr ⟨b, rfl⟩⟩
theorem Qlt (rb : Nat) (S : List UInt8) (st : PS) (p : RdP) (nm : List Qaj) (c : Cell) (hc : c.names = [] /\ c.items = []) (hl : p.m.length <= 1000000) : SpecH Tryz.prog 97 [.c (.v (.pointer (some ⟨rb, 0, none⟩))), .c (.v (.agg #[.int .i64 c.kind, .int .i64 c.num, .string (bs c.text), .slice none 0 0, .slice none 0 0]))] (dE rb S st p nm)
  (RetG (ι := Nat × Nat) (fun _ => True) (fun _ => .int .i64 (p.m.length : Int)) fun i => dE rb S (addP st c) { p with m := p.m ++ [plP c], ga := some ⟨i.1, 0, none⟩, gc := i.2 } nm) := by
 refine ownC hm Tryz.func97 (by kernel_rfl) rfl rfl (fun _ _ => QAx _ _ _ _ _) (fun _ _ => Zcz _) ?_
 refine wX ?_
 refine DrawN.plan [0, 1] [(2, 1), (3, 1), (4, 1), (5, 1), (6, 0)] [(7, 0), (8, 0), (9, 0), (10, 0)] (by decide +kernel) ?_
 refine wX ?_
 refine LdN.one (a := some ⟨rb, 0, none⟩) (q := 2) (.slice p.ga p.m.length p.gc) rfl (fun w hw => hw.1) rfl ?_
 have hn := hc.1
 have hi := hc.2
 obtain ⟨k, num, t, ns, its⟩ := c
 simp only at hn hi
 subst hn
 subst hi
 refine wX ?_
 refine Nd.mk ⟨Zcz 1, rfl, rfl⟩ ?_
 (conv => whnf)
 refine AppN.grow 1 (grC p.m) (Qa2 (plP ⟨k, num, t, [], []⟩)) rfl rfl ⟨Zcz 1, ⟨by show (p.m.length + 1) * 80 <= _; omega, by omega⟩, by decide⟩ fun gb gc' g1 g2 => ?_
 refine wX ?_
 have hml : p.m.length + 1 = (p.m ++ [plP ⟨k, num, t, [], []⟩]).length := by simp
 rw [<- Qf1, hml]
 refine EffW.appTo (i := 0) (q := 2) (ys := [_]) (ddC S (addP st ⟨k, num, t, [], []⟩) { p with m := p.m ++ [plP ⟨k, num, t, [], []⟩], ga := some ⟨gb, 0, none⟩, gc := gc' }) 6 rfl rfl rfl rfl rfl rfl rfl (Zaz rfl) rfl rfl ?_
 refine wX ?_
 refine LdN.one (a := some ⟨rb, 0, none⟩) (q := 2) (.slice (some ⟨gb, 0, none⟩) (p.m ++ [plP ⟨k, num, t, [], []⟩]).length gc') rfl (fun w hw => hw.1) rfl ?_
 refine wX ?_
 have e1 : ((p.m ++ [plP ⟨k, num, t, [], []⟩]).length : Int) - 1 = (p.m.length : Int) := by rw [<- hml]; omega
 rw [e1]
 exact ⟨(gb, gc'), trivial, rfl, wHH⟩
end Go.Proofs.YtgogonnnojcioaaGreatDoor
namespace Go.AX
structure RowD where
 T : TypeId
 sz : Nat
 n : Nat
 xs : List Value
 b : Nat
 cap : Nat
def RowD.ok (r : RowD) (w : World) : Prop := RowF r.T r.sz r.n r.xs r.b r.cap w
def famB (l : List RowD) (b : Nat) : Prop := ∃ r ∈ l, r.b = b
def famF (l : List RowD) (w : World) : Prop := (l.map RowD.b).Nodup /\ ∀ r ∈ l, r.ok w
def famE (l : List RowD) : Ent := .fam (famB l) (famF l)
theorem famF.imm {l : List RowD} {w : World} (h : famF l w) : Imm (famB l) w (famF l) :=
 ⟨h, fun _ hw => ⟨h.1, fun r hr => (h.2 r hr).move (hw r.b ⟨r, hr, rfl⟩)⟩⟩
theorem Qyx {T : TypeId} {sz n : Nat} {xs : List Value} {b cap : Nat} {w : World} (h : RowF T sz n xs b cap w) : b < w.heap.size := by
 obtain ⟨arr, fr, ⟨h1, _⟩, _⟩ := h
 exact (Zjz.1 h1).1
theorem Qvm {ρ : List Loc} {S : Nat -> Prop} {w : World} {i : Nat} {l : List RowD} (h : famF l w) : EntOk ρ S w i (famE l) :=
 ⟨h.imm, fun _ ⟨r, hr, hb⟩ => hb ▸ Qyx (h.2 r hr)⟩
theorem Qw8 (w : World) : famF [] w := ⟨List.nodup_nil, fun r h => by cases h⟩
def TurnE (H G : List Ent) : Prop := G.length = H.length /\ ∀ (ρ : List Loc) (S : Nat -> Prop) (w : World), Sat ρ S H w -> Sat ρ S G w /\ Ev ρ S H w ρ S G w
theorem TurnE.s {H G : List Ent} (h : TurnE H G) : TurnS H G := ⟨h.1, fun ρ S w hs => ⟨S, h.2 ρ S w hs⟩⟩
theorem TurnE.refl (H : List Ent) : TurnE H H := ⟨rfl, fun _ _ _ hs => ⟨hs, Ev.refl _ _ _ _⟩⟩
theorem TurnE.trans {H G J : List Ent} (h : TurnE H G) (k : TurnE G J) : TurnE H J :=
 ⟨k.1.trans h.1, fun ρ S w hs => by
  obtain ⟨h1, e1⟩ := h.2 ρ S w hs
  obtain ⟨h2, e2⟩ := k.2 ρ S w h1
  exact ⟨h2, e1.trans e2⟩⟩
theorem TurnS.trans {H G J : List Ent} (h : TurnS H G) (k : TurnS G J) : TurnS H J :=
 ⟨k.1.trans h.1, fun ρ S w hs => by
  obtain ⟨S1, h1, e1⟩ := h.2 ρ S w hs
  obtain ⟨S2, h2, e2⟩ := k.2 ρ S1 w h1
  exact ⟨S2, h2, e1.trans e2⟩⟩
theorem Sat.two {ρ : List Loc} {S : Nat -> Prop} {H : List Ent} {w : World} (h : Sat ρ S H w) {i j : Nat} {e f e' f' : Ent} (hi : H[i]? = some e) (hj : H[j]? = some f) (hne : i ≠ j)
  (hb : ∀ b, entB ρ i e' b \/ entB ρ j f' b -> entB ρ i e b \/ entB ρ j f b) (hx : ∀ b, entB ρ i e' b -> ¬ entB ρ j f' b) (ke : EntOk ρ S w i e') (kf : EntOk ρ S w j f') :
  Sat ρ S ((H.set i e').set j f') w /\ Ev ρ S H w ρ S ((H.set i e').set j f') w := by
 have hil := (Zfz.1 hi).1
 have hjl := (Zfz.1 hj).1
 have hcase : ∀ (k : Nat) (g : Ent), ((H.set i e').set j f')[k]? = some g -> (k = i /\ g = e') \/ (k = j /\ g = f') \/ (k ≠ i /\ k ≠ j /\ H[k]? = some g) := fun k g hk => by
  by_cases h2 : k = j
  ·subst h2
   rw [List.getElem?_set_self (by rw [List.length_set]; exact hjl)] at hk
   exact .inr (.inl ⟨rfl, (Zzz hk).symm⟩)
  ·rw [Zyz (fun e => h2 e.symm)] at hk
   by_cases h1 : k = i
   ·subst h1
    rw [List.getElem?_set_self hil] at hk
    exact .inl ⟨rfl, (Zzz hk).symm⟩
   ·rw [Zyz (fun e => h1 e.symm)] at hk
    exact .inr (.inr ⟨h1, h2, hk⟩)
 have hown : ∀ (k : Nat) (g : Ent) (b : Nat), ((H.set i e').set j f')[k]? = some g -> entB ρ k g b -> (k = i \/ k = j) /\ (entB ρ i e b \/ entB ρ j f b) \/ (k ≠ i /\ k ≠ j /\ H[k]? = some g) := fun k g b hk hg => by
  rcases hcase k g hk with ⟨rfl, rfl⟩ | ⟨rfl, rfl⟩ | h3
  ·exact .inl ⟨.inl rfl, hb b (.inl hg)⟩
  ·exact .inl ⟨.inr rfl, hb b (.inr hg)⟩
  ·exact .inr h3
 have hno : ∀ (k : Nat) (g : Ent) (b : Nat), k ≠ i -> k ≠ j -> H[k]? = some g -> entB ρ k g b -> ¬ (entB ρ i e b \/ entB ρ j f b) := fun k g b h1 h2 hk hg hh => by
  rcases hh with hh | hh
  ·exact h1 (h.inj k i g e b hk hi hg hh)
  ·exact h2 (h.inj k j g f b hk hj hg hh)
 have hmb : ∀ b, mb ρ ((H.set i e').set j f') b -> mb ρ H b := fun b ⟨k, g, hk, hg⟩ => by
  rcases hown k g b hk hg with ⟨_, h1 | h1⟩ | ⟨_, _, h1⟩
  ·exact ⟨i, e, hi, h1⟩
  ·exact ⟨j, f, hj, h1⟩
  ·exact ⟨k, g, h1, hg⟩
 refine ⟨⟨by rw [List.length_set, List.length_set]; exact h.len, fun k g hk => ?_, fun k l g g2 b hk hl hg hg2 => ?_, fun b hb => h.out b (hmb b hb), h.low⟩, ⟨⟨[], by simp⟩, rfl, rfl, rfl, Zcz _, fun _ _ _ => rfl, fun _ h => .inl h, fun b hb => .inl (hmb b hb)⟩⟩
 ·rcases hcase k g hk with ⟨rfl, rfl⟩ | ⟨rfl, rfl⟩ | ⟨_, _, h3⟩
  ·exact ke
  ·exact kf
  ·exact h.ent k g h3
 ·rcases hcase k g hk with ⟨rfl, rfl⟩ | ⟨rfl, rfl⟩ | ⟨k1, k2, h3⟩ <;> rcases hcase l g2 hl with ⟨rfl, rfl⟩ | ⟨rfl, rfl⟩ | ⟨l1, l2, h4⟩
  ·rfl
  ·exact absurd hg2 (hx b hg)
  ·exact absurd (hb b (.inl hg)) (hno l g2 b l1 l2 h4 hg2)
  ·exact absurd hg (hx b hg2)
  ·rfl
  ·exact absurd (hb b (.inr hg)) (hno l g2 b l1 l2 h4 hg2)
  ·exact absurd (hb b (.inl hg2)) (hno k g b k1 k2 h3 hg)
  ·exact absurd (hb b (.inr hg2)) (hno k g b k1 k2 h3 hg)
  ·exact h.inj k l g g2 b h3 h4 hg hg2
theorem Qyb {H : List Ent} (i j : Nat) {l l' : List RowD} {T : TypeId} {sz n b cap : Nat} {xs : List Value} (hi : nthE H i = some (famE l)) (hj : nthE H j = some (.app T sz xs (some ⟨b, 0, none⟩) n cap)) (hne : Nat.beq i j = false) (hp : (⟨T, sz, n, xs, b, cap⟩ :: l).Perm l') : TurnE H ((H.set i (famE l')).set j .dead) := by
 rw [Qbp] at hi hj
 refine ⟨by rw [List.length_set, List.length_set], fun ρ S w hs => ?_⟩
 have hF : famF l w := (hs.ent i _ hi).1.1
 have hij := Nat.ne_of_beq_eq_false hne
 rcases hs.ent j _ hj with ⟨h0, _⟩ | ⟨b', hb', hrow⟩
 ·cases h0
 cases hb'
 have hnb : b ∉ l.map RowD.b := fun hm => by
  obtain ⟨r, hr, hrb⟩ := Zoz.1 hm
  exact hij (hs.inj i j _ _ b hi hj ⟨r, hr, hrb⟩ rfl)
 have hF' : famF l' w := ⟨(hp.map RowD.b).nodup_iff.1 (Zxz.2 ⟨hnb, hF.1⟩), fun q hq => by
  rcases List.mem_cons.1 (hp.mem_iff.2 hq) with rfl | hq
  ·exact hrow
  ·exact hF.2 q hq⟩
 refine hs.two hi hj hij (fun c hc => ?_) (fun _ _ hb => hb) (Qvm hF') trivial
 rcases hc with ⟨q, hq, hqb⟩ | hc
 ·rcases List.mem_cons.1 (hp.mem_iff.2 hq) with rfl | hq
  ·exact .inr (congrArg some hqb)
  ·exact .inl ⟨q, hq, hqb⟩
 ·exact hc.elim
theorem QAo {H : List Ent} (i : Nat) (hi : nthE H i = some .dead) : TurnE H (H.set i (famE [])) := by
 rw [Qbp] at hi
 refine ⟨by rw [List.length_set], fun ρ S w hs => ?_⟩
 have hget : ∀ (j : Nat) (f : Ent), (H.set i (famE []))[j]? = some f -> f = famE [] \/ H[j]? = some f := fun j f hf => by
  by_cases hj : i = j
  ·subst hj
   rw [List.getElem?_set_self (Zfz.1 hi).1] at hf
   exact .inl (Zzz hf).symm
  ·rw [Zyz hj] at hf
   exact .inr hf
 have hb : ∀ (j : Nat) (f : Ent) (b : Nat), (H.set i (famE []))[j]? = some f -> entB ρ j f b -> H[j]? = some f := fun j f b hf hfb => by
  rcases hget j f hf with rfl | h1
  ·obtain ⟨r, hr, _⟩ := hfb; cases hr
  ·exact h1
 have hmb : ∀ b, mb ρ (H.set i (famE [])) b -> mb ρ H b := fun b ⟨j, f, hf, hfb⟩ => ⟨j, f, hb j f b hf hfb, hfb⟩
 exact ⟨⟨by simp [hs.len], fun j f hf => by
   rcases hget j f hf with rfl | h1
   ·exact Qvm (Qw8 w)
   ·exact hs.ent j f h1,
  fun j k f g b hf hg hfb hgb => hs.inj j k f g b (hb j f b hf hfb) (hb k g b hg hgb) hfb hgb, fun b hbb => hs.out b (hmb b hbb), hs.low⟩,
  ⟨⟨[], by simp⟩, rfl, rfl, rfl, Zcz _, fun _ _ _ => rfl, fun _ h => .inl h, fun b hbb => .inl (hmb b hbb)⟩⟩
def Ent.bare : Ent -> Bool
 | .app .. => true
 | .mp .. => true
 | .fam .. => true
 | .dead => true
 | _ => false
theorem EntOk.bare {ρ ρ' : List Loc} {S S' : Nat -> Prop} {w : World} {i j : Nat} {e : Ent} (he : e.bare = true) (h : EntOk ρ S w i e) : EntOk ρ' S' w j e := by
 cases e <;> first | (cases he; done) | exact h
theorem Qvo {ρ ρ' : List Loc} {i j b : Nat} {e : Ent} (he : e.bare = true) (h : entB ρ i e b) : entB ρ' j e b := by
 cases e <;> first | (cases he; done) | exact h
def Qv2 : List Ent -> List Ent -> (List Ent -> Prop) -> Prop
 | H, [], K => K H
 | H, e :: N, K => Qfa H e 0 fun H' _ => Qv2 H' N K
theorem Qsf : ∀ (N H : List Ent) (K : List Ent -> Prop), Qv2 H N K = K (H ++ N)
 | [], H, K => by simp [Qv2]
 | e :: N, H, K => by
  unfold Qv2
  rw [Qco, Qsf N]
  simp
theorem QAq {P : Program} {f : FuncId} {xs : List Value} {F : World -> Prop} {ι : Type} {inv : ι -> Prop} {val : ι -> Value} {N : ι -> List Ent} (hN : ∀ i, (N i).all Ent.bare = true)
  (h : SpecH P f (pvs xs) [.fact F] (RetG inv val fun i => .dead :: N i)) {H : List Ent} (hF : ∀ w, Qax H w -> F w) {K : Out -> List Ent -> Prop} (hk : ∀ i, inv i -> Qv2 H (N i) fun G => K (.val (.c (.v (val i)))) G) : SpecH P f (pvs xs) H K := by
 refine ⟨h.ok, fun ρ S w vs hs hr => ?_⟩
 have h0 : Sat [⟨0, 0⟩] (fun b => S b \/ appB H b) [.fact F] w := by
  refine ⟨rfl, fun i e he => ?_, fun i j e f b he hf heo => ?_, fun b hb => ?_, fun b hb => ?_⟩
  ·match i, he with
   | 0, he => simp at he; subst he; exact hs.imm.mono hF
  ·match i, he with
   | 0, he => simp at he; subst he; exact heo.elim
  ·obtain ⟨i, e, he, ho⟩ := hb
   match i, he with
   | 0, he => simp at he; subst he; exact ho.elim
  ·rcases hb with hb | hb
   ·exact hs.low b hb
   ·obtain ⟨i, e, he, heb⟩ := Qn4 (ρ := ρ) hb
    exact hs.blk_lt he heb
 have nomb : ∀ b, ¬ mb [⟨0, 0⟩] [Ent.fact F] b := by
  rintro b ⟨i, e, he, ho⟩
  match i, he with
  | 0, he => simp at he; subst he; exact ho.elim
 obtain rfl := Qe9 hr
 refine (h.run _ _ w vs h0 (Qgl _ vs)).mono fun e w' ⟨ρ', S', H', out, hs', hev, hout, i, hi, ho, hH⟩ => ?_
 subst ho
 subst hH
 have hk := hk i hi
 rw [Qsf] at hk
 have hnew : ∀ (k : Nat) (g : Ent) (b : Nat), (N i)[k]? = some g -> entB ρ' (k + 1) g b -> w.heap.size <= b := fun k g b hg hb => (hev.own b ⟨k + 1, g, by simpa using hg, hb⟩).resolve_left (nomb b)
 have hbr : ∀ (k : Nat) (g : Ent), (N i)[k]? = some g -> g.bare = true := fun k g hg => Zqz.1 (hN i) g (Ziz hg)
 have hbel : ∀ b, b < w.heap.size -> w'.heap[b]? = w.heap[b]? := fun b hb => hev.keep b hb (nomb b)
 have hcase : ∀ (k : Nat) (g : Ent), (H ++ N i)[k]? = some g -> (k < H.length /\ H[k]? = some g) \/ (H.length <= k /\ (N i)[k - H.length]? = some g) := fun k g hg => by
  by_cases hk : k < H.length
  ·rw [Zrz hk] at hg; exact .inl ⟨hk, hg⟩
  ·rw [List.getElem?_append_right (by omega)] at hg
   exact .inr ⟨by omega, hg⟩
 have hown : ∀ (k : Nat) (g : Ent) (b : Nat), (H ++ N i)[k]? = some g -> entB (ρ ++ List.replicate (N i).length ⟨0, 0⟩) k g b -> (k < H.length /\ H[k]? = some g /\ entB ρ k g b /\ b < w.heap.size) \/ (H.length <= k /\ (N i)[k - H.length]? = some g /\ entB ρ' (k - H.length + 1) g b /\ w.heap.size <= b) := fun k g b hg hb => by
  rcases hcase k g hg with ⟨h1, h2⟩ | ⟨h1, h2⟩
  ·rw [Qdb _ (by rw [hs.len]; exact h1)] at hb
   exact .inl ⟨h1, h2, hb, hs.blk_lt h2 hb⟩
  ·have h3 : entB ρ' (k - H.length + 1) g b := Qvo (hbr _ g h2) hb
   exact .inr ⟨h1, h2, h3, hnew _ g b h2 h3⟩
 have hmb : ∀ b, mb (ρ ++ List.replicate (N i).length ⟨0, 0⟩) (H ++ N i) b -> mb ρ H b \/ w.heap.size <= b := fun b ⟨k, g, hg, hb⟩ => by
  rcases hown k g b hg hb with ⟨_, h2, h3, _⟩ | ⟨_, _, _, h4⟩
  ·exact .inl ⟨k, g, h2, h3⟩
  ·exact .inr h4
 refine ⟨ρ ++ List.replicate (N i).length ⟨0, 0⟩, S, H ++ N i, .val (.c (.v (val i))), ⟨by simp [hs.len], fun k g hg => ?_, fun k l g g2 b hg hg2 hb hb2 => ?_, fun b hb hS => ?_, fun b hb => Nat.lt_of_lt_of_le (hs.low b hb) hev.size⟩, ⟨⟨_, rfl⟩, hev.os, hev.tape, hev.output, hev.size, fun b hb _ => hbel b hb, fun b hb => .inl hb, hmb⟩, hout, hk⟩
 ·rcases hcase k g hg with ⟨h1, h2⟩ | ⟨h1, h2⟩
  ·exact (hs.ent k g h2).move _ (fun b hb => hbel b (hs.blk_lt h2 hb)) fun b hb => hbel b (hs.low b hb)
  ·exact EntOk.bare (hbr _ g h2) (hs'.ent (k - H.length + 1) g (by simpa using h2))
 ·rcases hown k g b hg hb with ⟨_, h2, h3, h4⟩ | ⟨h1, h2, h3, h4⟩ <;> rcases hown l g2 b hg2 hb2 with ⟨_, k2, k3, k4⟩ | ⟨k1, k2, k3, k4⟩
  ·exact hs.inj k l g g2 b h2 k2 h3 k3
  ·omega
  ·omega
  ·have := hs'.inj (k - H.length + 1) (l - H.length + 1) g g2 b (by simpa using h2) (by simpa using k2) h3 k3
   omega
 ·rcases hmb b hb with h1 | h1
  ·exact hs.out b h1 hS
  ·have := hs.low b hS; omega
end Go.AX
namespace Go.Proofs.YtgogonnnojcioaaGreatDoor
open Go.AX Go.RowKit Go.Core
set_option maxRecDepth 20000
def Qsp (p : Qaj) : List RowD :=
 (match p.na with | some ad => [⟨9, 1, p.c.names.length, strC p.c.names, ad.block, p.nc⟩] | none => []) ++ (match p.ia with | some ad => [⟨3, 1, p.c.items.length, iC p.c.items, ad.block, p.ic⟩] | none => [])
def Qop (m : List Qaj) : List RowD := m.flatMap Qsp
theorem Qsq (m : List Qaj) (p : Qaj) : Qop (m ++ [p]) = Qop m ++ Qsp p := by unfold Qop; rw [List.flatMap_append]; simp
structure OwnP (p : Qaj) : Prop where
 na : ∀ ad, p.na = some ad -> ad = ⟨ad.block, 0, none⟩
 ia : ∀ ad, p.ia = some ad -> ad = ⟨ad.block, 0, none⟩
theorem Qud {T : TypeId} {sz n : Nat} {xs : List Value} {b cap : Nat} {w : World} (h : RowF T sz n xs b cap w) : SlAt (some ⟨b, 0, none⟩) (n * sz) xs w := h.sl
theorem Qs9 {p : Qaj} (ho : Qa5 p) (hw : OwnP p) {w : World} (h : ∀ r ∈ Qsp p, r.ok w) : Qbn p w := by
 refine ⟨?_, ?_⟩
 ·cases hn : p.na with
  | none => rw [ho.na hn]; exact SlAt.nil
  | some ad =>
   rw [hw.na ad hn]
   exact Qud (h ⟨9, 1, p.c.names.length, strC p.c.names, ad.block, p.nc⟩ (by unfold Qsp; rw [hn]; simp))
 ·cases hn : p.ia with
  | none => rw [ho.ia hn]; exact SlAt.nil
  | some ad =>
   rw [hw.ia ad hn]
   exact Qud (h ⟨3, 1, p.c.items.length, iC p.c.items, ad.block, p.ic⟩ (by unfold Qsp; rw [hn]; simp))
theorem Qw5 {m : List Qaj} (ho : ∀ p ∈ m, Qa5 p) (hw : ∀ p ∈ m, OwnP p) {w : World} (h : famF (Qop m) w) : ∀ p ∈ m, Qbn p w := fun p hp =>
 Qs9 (ho p hp) (hw p hp) fun r hr => h.2 r (List.mem_flatMap.2 ⟨p, hp, hr⟩)
def ownN (T : TypeId) (st : DSt) : List Ent := [.app T 5 (grC st.m) st.oa st.m.length st.oc, famE (Qop st.m)]
structure OInv (l : List Qaj) (st : DSt) : Prop where
 oa : st.oa = none -> st.m = []
 c : st.m.map (·.c) = l.map (·.c)
 ok : ∀ p ∈ st.m, Qa5 p
 own : ∀ p ∈ st.m, OwnP p
 cap : st.m.length <= st.oc
theorem OInv.gr {l : List Qaj} {st : DSt} (h : OInv l st) {w : World} (h1 : SlAt st.oa (st.m.length * 5) (grC st.m) w) (h2 : famF (Qop st.m) w) : GrF st.oa st.m w := ⟨h1, Qw5 h.ok h.own h2⟩
set_option maxHeartbeats 4000000 in
theorem as_o (a : Option Addr) (ca : Nat) (l : List Qaj) (ha : a = none -> l = []) (hs : Small l) (hok : ∀ p ∈ l, Qa5 p) : SpecH Tryz.prog 32 (pvs [.slice a l.length ca]) [.fact (GrF a l)] (RetG (OInv l) (fun st => .slice st.oa st.m.length st.oc) (fun st => .dead :: ownN 87 st)) := by
 obtain ⟨hl, hsm⟩ := hs
 refine ownC hm Tryz.func32 (by kernel_rfl) rfl rfl (fun _ _ => Qan rfl) (fun _ _ => by show 1 <= 3; decide) ?_
 refine wX ?_
 refine LoopN.introS DSt (fun st => DInv l st /\ ∀ p ∈ st.m, OwnP p) (fun ⟨i, oa, oc, m⟩ => mkS 35 0 [(0, .c (.v (.slice a l.length ca))), (3, .c (.v (.slice oa m.length oc))), (4, .c (.v (.int .i64 (i : Int))))]) (fun ⟨i, oa, oc, m⟩ => [.fact (GrF a l), .app 87 5 (grC m) oa m.length oc, famE (Qop m)]) (fun ⟨i, _, _, _⟩ => l.length - i) [.app 87 5 [] none 0 0, .dead] rfl (fun _ => rfl) (fun _ => rfl) (fun _ _ => ⟨trivial, trivial, trivial, trivial⟩) ?_ ?_
 ·refine ⟨⟨0, none, 0, []⟩, ⟨⟨Zkz _, rfl, (fun p h => by cases h), (fun _ => rfl), Zcz _⟩, fun p h => by cases h⟩, ?_, _, (QAo 2 rfl).s, ?_⟩
  ·exact wKK
  ·exact ⟨Qaa _, Qaa _, Qaa _, trivial⟩
 rintro ⟨i, oa, oc, m⟩ ⟨hinv, hom⟩
 have hml := hinv.len
 obtain ⟨hi, hmc, hmo, hoa, hoc⟩ := hinv
 refine wX ?_
 refine Qab (fun h1 => ?_) (fun h1 => ?_)
 ·obtain ⟨p, hp⟩ : ∃ p, l[i]? = some p := ⟨_, Zbz (by omega)⟩
  have hpm := Ziz hp
  have hpo := hok p hpm
  obtain ⟨hnl, hil⟩ := hsm p hpm
  have hsa : a.isSome = true := by
   cases a with
   | none => rw [ha rfl] at hp; cases hp
   | some b => rfl
  refine wX ?_
  refine Nd.mk ⟨hsa, by omega, by omega⟩ ?_
  refine wX ?_
  refine LdN.agg (Qa2 p) rfl (fun w hw => hw.1.1) rfl (fun k hk => by rw [Zdz]; exact Qau l i k hk hp) ?_
  refine wXB ?_
  refine BoxN.known [.int .i64 0, .int .i64 0, .string { data := #[] }, .slice none 0 0, .slice none 0 0] rfl fun cb => ?_
  refine wXB ?_
  refine EffW.appTo (i := 3) (q := 0) (ys := Qa2 p) (Qa2 p) 5 rfl rfl rfl rfl rfl rfl rfl (Zaz rfl) rfl rfl ?_
  refine wXB ?_
  refine DrawN.planK hm (fun w => SlAt (some ⟨cb, 0, none⟩) 5 (Qa2 p) w) [7, 11] [0, 1, 3, 5, 8, 12] [(9, 1), (2, 1), (4, 1), (6, 1), (13, 1), (7, 2), (10, 0), (11, 2), (14, 0), (15, 0), (16, 0), (17, 0), (18, 0)] (by decide +kernel) (fun w hw => hw.2.2.2.1) ?_
  refine wXP ?_
  refine ReadC.one (a := some ⟨cb, 0, none⟩) (q := 3) (.slice p.na p.c.names.length p.nc) rfl rfl rfl (fun w hw => hw) rfl ?_
  refine wXP ?_
  refine ReadC.one (a := some ⟨cb, 0, none⟩) (q := 0) (.int .i64 p.c.kind) rfl rfl rfl (fun w hw => hw) rfl ?_
  refine wXP ?_
  refine ReadC.one (a := some ⟨cb, 0, none⟩) (q := 1) (.int .i64 p.c.num) rfl rfl rfl (fun w hw => hw) rfl ?_
  refine wXP ?_
  refine ReadC.one (a := some ⟨cb, 0, none⟩) (q := 2) (.string (bs p.c.text)) rfl rfl rfl (fun w hw => hw) rfl ?_
  refine wXP ?_
  refine ReadC.one (a := some ⟨cb, 0, none⟩) (q := 4) (.slice p.ia p.c.items.length p.ic) rfl rfl rfl (fun w hw => hw) rfl ?_
  refine wXP ?_
  intro nb
  refine wXP ?_
  refine Qn3 4 [] (strC p.c.names) rfl (Zcz _) (fun h => by cases hq : p.na with | none => rw [hpo.na hq] at h; cases h | some b => rfl) (by show (strC p.c.names).length = p.c.names.length * 1; simp [strC]) (fun u hu => by obtain ⟨x, _, rfl⟩ := Zoz.1 hu; rfl) (fun w hw j v hv => (hw.1.2 p hpm).1.cell hv) ⟨⟨by show (0 + p.c.names.length) * 16 <= _; omega, by omega⟩, Nat.one_ne_zero⟩ fun nb2 nc2 hnc2 => ?_
  rw [Nat.zero_add, List.nil_append]
  refine wXP ?_
  intro ib
  refine wXP ?_
  refine Qn3 5 [] (iC p.c.items) rfl (Zcz _) (fun h => by cases hq : p.ia with | none => rw [hpo.ia hq] at h; cases h | some b => rfl) (by show (iC p.c.items).length = p.c.items.length * 1; simp [iC]) (fun u hu => by obtain ⟨x, _, rfl⟩ := Zoz.1 hu; rfl) (fun w hw j v hv => (hw.1.2 p hpm).2.cell hv) ⟨⟨by show (0 + p.c.items.length) * 8 <= _; omega, by omega⟩, Nat.one_ne_zero⟩ fun ib2 ic2 hic2 => ?_
  rw [Nat.zero_add, List.nil_append]
  refine wXP ?_
  refine RwN.own ?_
  refine wXP ?_
  refine Nd.mk ⟨Zcz 1, rfl, rfl⟩ ?_
  (conv => whnf)
  refine AppN.grow 1 (grC m) (Qa2 ⟨p.c, some ⟨nb2, 0, none⟩, nc2, some ⟨ib2, 0, none⟩, ic2⟩) rfl rfl ⟨Zcz 1, ⟨by show (m.length + 1) * 80 <= _; omega, by omega⟩, by decide⟩ fun ob2 oc2 hoc2 _ => ?_
  refine wXP ?_
  have hm2 : m.length + 1 = (m ++ [(⟨p.c, some ⟨nb2, 0, none⟩, nc2, some ⟨ib2, 0, none⟩, ic2⟩ : Qaj)]).length := by simp
  have hg2 := Qf1 m ⟨p.c, some ⟨nb2, 0, none⟩, nc2, some ⟨ib2, 0, none⟩, ic2⟩
  have hrw := Qsq m ⟨p.c, some ⟨nb2, 0, none⟩, nc2, some ⟨ib2, 0, none⟩, ic2⟩
  refine ⟨⟨i + 1, some ⟨ob2, 0, none⟩, oc2, m ++ [⟨p.c, some ⟨nb2, 0, none⟩, nc2, some ⟨ib2, 0, none⟩, ic2⟩]⟩, ⟨⟨by omega, ?_, ?_, (fun h => by cases h), by omega⟩, ?_⟩, by show l.length - (i + 1) < l.length - i; omega, ?_, _, ((Qyb 2 4 rfl rfl rfl (List.perm_append_singleton _ _).symm).trans (Qyb 2 5 rfl rfl rfl (List.perm_append_singleton _ _).symm)).s, ?_⟩
  ·rw [List.take_add_one, hp, List.map_append, List.map_append, hmc]
   rfl
  ·intro q hq
   rcases Zmz.1 hq with hq | hq
   ·exact hmo q hq
   ·rw [Zgz.1 hq]
    exact ⟨(fun h => by cases h), (fun h => by cases h), hpo.nl, hpo.il, hpo.nw, hpo.tl, by show p.c.names.length <= nc2; omega, by show p.c.items.length <= ic2; omega⟩
  ·intro q hq
   rcases Zmz.1 hq with hq | hq
   ·exact hom q hq
   ·rw [Zgz.1 hq]
    exact ⟨fun ad h => by cases h; rfl, fun ad h => by cases h; rfl⟩
  ·(repeat' (first | exact trivial | refine And.intro (by with_reducible rfl) ?_ | (with_reducible exact Qay _) | (with_reducible exact Qaq _) | refine And.intro ?_ ?_))
   all_goals first | rfl | exact Qes (by omega) | (rw [hm2])
  ·show wkH _ [Ent.fact (GrF a l), .app 87 5 (grC (m ++ [_])) _ (m ++ [_]).length _, famE (Qop (m ++ [_]))]
   rw [<- hm2, hg2, hrw]
   refine ⟨Qaa _, Qaa _, ?_, trivial⟩
   rw [show Qsp (⟨p.c, some ⟨nb2, 0, none⟩, nc2, some ⟨ib2, 0, none⟩, ic2⟩ : Qaj) = [⟨9, 1, p.c.names.length, strC p.c.names, nb2, nc2⟩] ++ [⟨3, 1, p.c.items.length, iC p.c.items, ib2, ic2⟩] from rfl, <- Zuz]
   exact Qaa _
 ·have hil : i = l.length := by omega
  subst hil
  rw [Ztz] at hmc
  refine wX ?_
  exact ⟨⟨l.length, oa, oc, m⟩, ⟨hoa, hmc, hmo, hom, hoc⟩, rfl, trivial, Qaa _, Qaa _, trivial⟩
structure GrwC (n : Nat) (p : Qaj) : Prop where
 ok : Qa5 p
 it : ∀ y ∈ p.c.items, 0 <= y
 il : p.c.items.length <= 4
 nl : p.c.names.length <= 2
 tl : p.c.text.length <= 2
theorem Qcc (n : Nat) (k nu : Int) (t : List UInt8) (ht : t.length <= 2) : GrwC n ⟨⟨k, nu, t, [], []⟩, none, 0, none, 0⟩ :=
 ⟨⟨fun _ => rfl, fun _ => rfl, Zkz _, Zkz _, (fun s h => (by cases h)), (by show t.length <= _; omega), Zcz _, Zcz _⟩, (fun y h => (by cases h)), Zkz _, Zkz _, ht⟩
theorem Qie (x : Int) (k d e n : Nat) (hx : 0 <= x /\ x <= 2049638230412172402) (hk : k <= 3) (hd : 1 <= d) (he : e <= 10) : 0 <= (IntKind.i64.wrap (IntKind.u64.wrap (IntKind.u64.wrap (x.tdiv (d : Int)) + IntKind.u64.wrap (IntKind.u64.wrap (k : Int) * (e : Int))))).tmod (n : Int) := by
 have h1 : 0 <= x.tdiv (d : Int) /\ x.tdiv (d : Int) <= x := by
  rw [Int.tdiv_eq_ediv_of_nonneg hx.1]
  exact ⟨Int.ediv_nonneg hx.1 (by omega), Int.ediv_le_self _ hx.1⟩
 have h2 : 0 <= (k : Int) * (e : Int) /\ (k : Int) * (e : Int) <= 30 := by
  have := Nat.mul_le_mul hk he
  rw [<- Int.natCast_mul]
  omega
 rw [Qdr (x := x.tdiv (d : Int)) (by omega), Qdr (x := (k : Int)) (by omega), Qdr (x := (k : Int) * (e : Int)) (by omega), Qdr (by omega), Qaf (by omega)]
 exact Int.tmod_nonneg _ (by omega)
def setI (p : Qaj) (its : List Int) (ia : Option Addr) (ic : Nat) : Qaj := ⟨{ p.c with items := its }, p.na, p.nc, ia, ic⟩
theorem Qk8 : ∀ {m : List Qaj} {j : Nat} {p : Qaj} (its : List Int) (ia : Option Addr) (ic : Nat), m[j]? = some p -> (grC m).set (j * 5 + 4) (.slice ia its.length ic) = grC (m.set j (setI p its ia ic))
 | [], _, _, _, _, _, h => by cases h
 | q :: m, 0, p, its, ia, ic, h => by
  obtain rfl := Zzz h
  rfl
 | q :: m, j + 1, p, its, ia, ic, h => by
  have ih := Qk8 its ia ic (show m[j]? = some p from h)
  have e : ∀ q : Qaj, grC (q :: m) = Qa2 q ++ grC m := fun q => by unfold grC; rw [List.flatMap_cons]
  rw [e, List.set_cons_succ, show (j + 1) * 5 + 4 = (j * 5 + 4) + 5 by omega]
  have e2 : grC (q :: m.set j (setI p its ia ic)) = Qa2 q ++ grC (m.set j (setI p its ia ic)) := by unfold grC; rw [List.flatMap_cons]
  rw [e2, <- ih]
  rfl
theorem SlAt.take {a : Option Addr} {k j : Nat} {xs : List Value} {w : World} (h : SlAt a k xs w) (hj : j <= k) : SlAt a j (xs.take j) w :=
 ⟨by rw [List.length_take, h.1]; omega, fun h0 => h.2.1 (by omega), fun i hi => by rw [h.2.2 i (by omega), List.getElem?_take_of_lt hi]⟩
theorem Qvh {n : Nat} {m : List Qaj} (h : ∀ p ∈ m, GrwC n p) {j : Nat} {p : Qaj} (hp : p ∈ m) {its : List Int} (b ic : Nat) (h0 : ∀ y ∈ its, 0 <= y) (hl : its.length <= 4) (hc : its.length <= ic) : ∀ q ∈ m.set j (setI p its (some ⟨b, 0, none⟩) ic), GrwC n q := fun q hq => by
 rcases List.mem_or_eq_of_mem_set hq with hq | rfl
 ·exact h q hq
 ·have g := h p hp
  exact ⟨⟨g.ok.na, (fun h => by cases h), g.ok.nl, (by show its.length <= _; omega), g.ok.nw, g.ok.tl, g.ok.nb, hc⟩, h0, hl, g.nl, g.tl⟩
theorem Qpe {n : Nat} {m : List Qaj} (h : ∀ p ∈ m, GrwC n p) (hl : m.length <= 12) : Small m :=
 ⟨by omega, fun p hp => ⟨by have := (h p hp).nl; omega, by have := (h p hp).il; omega⟩⟩
theorem Qq8 (a : Option Addr) (ca : Nat) (l : List Qaj) (ha : a = none -> l = []) (hl : l.length <= 200000000000000) (hok : ∀ p ∈ l, Qa5 p) :
  ∃ b : Bool, (b = true ↔ Qbe (l.map (·.c))) /\ ∀ H, (∀ w, Qax H w -> GrF a l w) -> SpecH Tryz.prog 31 (pvs [.slice a l.length ca]) H (Ret (.bool b) H) := by
 obtain ⟨b, hb⟩ : ∃ b : Bool, b = true ↔ Qbe (l.map (·.c)) := by
  by_cases h : Qbe (l.map (·.c))
  ·exact ⟨true, fun _ => h, fun _ => rfl⟩
  ·exact ⟨false, (fun h => by cases h), fun h2 => absurd h2 h⟩
 refine ⟨b, hb, fun H hH => ?_⟩
 obtain ⟨b2, hb2, h⟩ := Qq7 a ca l ha hl hok H hH
 obtain rfl : b2 = b := by rw [Zsz, hb, hb2]
 exact h
theorem Qm4 {m : List Qaj} {j : Nat} {p : Qaj} (hp : p ∈ m) {its : List Int} {ia : Option Addr} {ic : Nat} {w : World} (h : ∀ q ∈ m, Qbn q w) (hi : SlAt ia (its.length * 1) (iC its) w) : ∀ q ∈ m.set j (setI p its ia ic), Qbn q w := fun q hq => by
 rcases List.mem_or_eq_of_mem_set hq with hq | rfl
 ·exact h q hq
 ·exact ⟨(h p hp).1, hi⟩
theorem Qz0 {P : Program} (hm : P.follows .mixedOrders = true) {f : FuncId} {fn : Func} {c : Code} (hf : P.funcs[f]? = some fn) (hn : (fn.name == "runtime.NumGoroutine") = false) (hb : fn.body = some c)
  {xs : List Value} (hl : Nat.ble (pvs xs).length fn.ntmps = true) {F : World -> Prop} {R : Value -> (World -> Prop) -> Prop} (h : Qhq fn.ntmps (pvs xs) fun s => Qi5 P c s [.fact F] (endK P fn.results.toList fun out H' => Qo3 out /\ Fin R out H')) : SpecF P f xs F R :=
 Qfs (Qfr hm hf hn hb hl h)
def GrwR (v : Value) (G : World -> Prop) : Prop := ∃ (oa : Option Addr) (oc : Nat) (m : List Qaj), v = .slice oa m.length oc /\ (oa = none -> m = []) /\ (∀ p ∈ m, Qa5 p) /\ Small m /\ (m = [] \/ Qbe (m.map (·.c))) /\ (m.length <= 12 /\ ∀ p ∈ m, p.c.items.length <= 4 /\ p.c.names.length <= 2 /\ p.c.text.length <= 2) /\ ∀ w, G w -> GrF oa m w
structure GSt where
 i : Nat
 ob : Option Nat
 oc : Nat
 m : List Qaj
abbrev GIx := (Int × Int × List UInt8) ⊕ (List Int × BSt) ⊕ (List UInt8 × List (List UInt8) × BSt × List Int × BSt)
def gP : GIx -> Qaj
 | .inl (k, nu, t) => ⟨⟨k, nu, t, [], []⟩, none, 0, none, 0⟩
 | .inr (.inl (its, o)) => ⟨⟨6, 0, [], [], its⟩, none, 0, at0 o.ob, o.cap⟩
 | .inr (.inr (t, nms, o2, its, o)) => ⟨⟨8, 0, t, nms, its⟩, at0 o2.ob, o2.cap, at0 o.ob, o.cap⟩
def gT : GIx -> List Ent
 | .inl _ => []
 | .inr (.inl (its, o)) => [.app 3 1 (iC its) (at0 o.ob) its.length o.cap]
 | .inr (.inr (t, nms, o2, its, o)) => [.dead, .app 9 1 (strC nms) (at0 o2.ob) nms.length o2.cap, .app 3 1 (iC its) (at0 o.ob) its.length o.cap]
set_option maxHeartbeats 4000000 in
theorem Qzt (a : Option Addr) (ca : Nat) (L : List Int) (ha : a = none -> L = []) (hl : L.length <= 200000000000000) : SpecF Tryz.prog 12 [.slice a L.length ca] (fun w => SlAt a (L.length * 1) (iC L) w) GrwR := by
 refine Qz0 hm Tryz.func12 (by kernel_rfl) rfl rfl ?_
 refine wXS ?_
 obtain ⟨n, hn⟩ : ∃ n, n = min L.length 12 := ⟨_, rfl⟩
 refine LoopN.introS GSt (fun ⟨i, ob, oc, m⟩ => i <= n /\ m.length = i /\ (∀ p ∈ m, GrwC n p) /\ (ob = none -> m = []) /\ m.length <= oc) (fun ⟨i, ob, oc, m⟩ => mkS Tryz.f12.ntmps 0 [(0, .c (.v (.slice a L.length ca))), (3, .c (.v (.int .i64 (n : Int)))), (4, .c (.v (.slice (at0 ob) m.length oc))), (5, .c (.v (.int .i64 (i : Int))))]) (fun ⟨i, ob, oc, m⟩ => [.fact (fun w => SlAt a (L.length * 1) (iC L) w), .app 57 5 (grC m) (at0 ob) m.length oc, .fact (fun w => ∀ p ∈ m, Qbn p w)]) (fun ⟨i, _, _, _⟩ => n - i) [.app 57 5 [] none 0 0, .dead] rfl (fun _ => rfl) (fun _ => rfl) (fun _ _ => ⟨trivial, trivial, trivial, trivial⟩) ?_ ?_
 ·refine ⟨⟨0, none, 0, []⟩, ⟨Zkz _, rfl, (fun p h => by cases h), (fun _ => rfl), Zcz _⟩, ?_, [.fact (fun w => SlAt a (L.length * 1) (iC L) w), .app 57 5 [] none 0 0, .fact (fun w => ∀ p ∈ [], Qbn p w)], Qkf ⟨.inr (.inl rfl), .inr (.inl rfl), .inr (.inr ⟨_, rfl, fun w _ p hp => by cases hp⟩), trivial⟩, Qag _⟩
  (repeat' (first | exact trivial | refine And.intro (by with_reducible rfl) ?_ | (with_reducible exact Qay _) | (with_reducible exact Qaq _) | refine And.intro ?_ ?_))
  all_goals first | rfl | exact Qes (by rw [hn]; unfold Go.AX.minI; split <;> omega)
 rintro ⟨i, ob, oc, m⟩ ⟨hi, hml, hmo, hoa, hoc⟩
 refine wXS ?_
 refine Qab (fun h1 => ?_) (fun h1 => ?_)
 ·obtain ⟨z, hz⟩ : ∃ z, L[i]? = some z := ⟨_, Zbz (by omega)⟩
  have hsa : a.isSome = true := by
   cases a with
   | none => rw [ha rfl] at hz; cases hz
   | some b => rfl
  refine wXS ?_
  refine Nd.mk ⟨hsa, by omega, by omega⟩ ?_
  refine wXS ?_
  refine LdN.one (.int .i64 z) rfl (fun w hw => hw.1) (by rw [Zdz]; show (iC L)[i * 1]? = _; rw [Nat.mul_one]; exact Qcb hz) ?_
  refine wX ?_
  refine SeqN.plain ?_
  refine wX ?_
  refine SeqN.plain ?_
  refine wX ?_
  have hXb := Qkd z
  generalize IntKind.u64.wrap z = X at *
  have hx0 : IntKind.u64.wrap (X.tdiv 9) = X / 9 := by rw [Int.tdiv_eq_ediv_of_nonneg (by omega)]; exact Qdr (by omega)
  have hk0 : IntKind.i64.wrap (X.tmod 9) = X % 9 := by rw [Int.tmod_eq_emod_of_nonneg (by omega)]; exact Qaf (by omega)
  rw [hx0, hk0]
  obtain ⟨x, hx⟩ : ∃ x, x = X / 9 := ⟨_, rfl⟩
  obtain ⟨kd, hkd⟩ : ∃ kd, kd = X % 9 := ⟨_, rfl⟩
  rw [<- hx, <- hkd]
  have hxb : 0 <= x /\ x <= 2049638230412172402 := by omega
  have hkb : 0 <= kd /\ kd <= 8 := by omega
  clear hx0 hk0
  refine SeqN.join GIx (fun i => GrwC n (gP i)) (fun _ => mkS Tryz.f12.ntmps 0 [(0, .c (.v (.slice a L.length ca))), (3, .c (.v (.int .i64 (n : Int)))), (4, .c (.v (.slice (at0 ob) m.length oc))), (5, .c (.v (.int .i64 (i : Int)))), (7, .c (.lp 3 0))])
   (fun i => .fact (fun w => SlAt a (L.length * 1) (iC L) w) :: .app 57 5 (grC m) (at0 ob) m.length oc :: .fact (fun w => ∀ p ∈ m, Qbn p w) :: .blk 57 (vs (Qa2 (gP i))) :: gT i)
   (by rintro (_ | _ | _) _ <;> exact Zaz rfl) (by rintro (_ | _ | _) _ <;> rfl) (by rintro (_ | _ | _) _ <;> exact Qan rfl) ?_ ?_
  rotate_left
  ·rintro (⟨k, nu, t⟩ | ⟨its, ob0, ocap⟩ | ⟨t, nms, ⟨nb0, ncap⟩, its, ob0, ocap⟩) hgp
   ·-- the cell is put behind the graph; ⟨⟨k, nu, t, [], []⟩, none, 0, none, 0⟩: the cell, , .dead, .dead: what else is over, ⟨SlAt.nil, SlAt.nil⟩: its rows
    refine wXS ?_
    try refine Nd.mk ⟨Zcz 1, rfl, rfl⟩ ?_
    (conv => whnf)
    refine AppN.grow 1 (grC m) (Qa2 (⟨⟨k, nu, t, [], []⟩, none, 0, none, 0⟩ : Qaj)) rfl rfl ⟨Zcz 1, ⟨by show (m.length + 1) * 80 <= _; omega, by omega⟩, by decide⟩ fun ob2 oc2 hoc2 _ => ?_
    refine wXS ?_
    have hm2 : m.length + 1 = (m ++ [(⟨⟨k, nu, t, [], []⟩, none, 0, none, 0⟩ : Qaj)]).length := by simp
    have hg2 := Qf1 m ⟨⟨k, nu, t, [], []⟩, none, 0, none, 0⟩
    refine ⟨⟨i + 1, some ob2, oc2, m ++ [⟨⟨k, nu, t, [], []⟩, none, 0, none, 0⟩]⟩, ⟨by omega, by rw [<- hm2, hml], ?_, (fun h => by cases h), by rw [<- hm2]; exact hoc2⟩, by show n - (i + 1) < n - i; omega, ?_, [.fact (fun w => SlAt a (L.length * 1) (iC L) w), .app 57 5 (grC m ++ Qa2 ⟨⟨k, nu, t, [], []⟩, none, 0, none, 0⟩) (some ⟨ob2, 0, none⟩) (m.length + 1) oc2, .fact (fun w => ∀ q ∈ m ++ [(⟨⟨k, nu, t, [], []⟩, none, 0, none, 0⟩ : Qaj)], Qbn q w), .dead, .dead], Qkf ⟨.inr (.inl rfl), .inr (.inl rfl), .inr (.inr ⟨_, rfl, fun w hw q hq => ?_⟩), by repeat (first | exact trivial | refine ⟨.inl rfl, ?_⟩)⟩, ?_⟩
    ·intro q hq
     rcases Zmz.1 hq with hq | hq
     ·exact hmo q hq
     ·rw [Zgz.1 hq]
      exact hgp
    ·(repeat' (first | exact trivial | refine And.intro (by with_reducible rfl) ?_ | (with_reducible exact Qay _) | (with_reducible exact Qaq _) | refine And.intro ?_ ?_))
     all_goals first | rfl | exact Qes (by rw [Qaf (by omega)]; omega) | (rw [hm2]; rfl)
    ·rcases Zmz.1 hq with hq | hq
     ·exact hw.2.1 q hq
     ·rw [Zgz.1 hq]
      exact ⟨SlAt.nil, SlAt.nil⟩
    ·show wkH _ [Ent.fact _, .app 57 5 (grC (m ++ [_])) _ (m ++ [_]).length _, _]
     rw [<- hm2, hg2]
     exact ⟨Qaa _, Qaa _, Qaa _, trivial⟩
   ·-- the cell is put behind the graph; ⟨⟨6, 0, [], [], its⟩, none, 0, at0 ob0, ocap⟩: the cell, , .dead, .dead, .dead: what else is over, ⟨SlAt.nil, hw.2.2.1⟩: its rows
    refine wXS ?_
    try refine Nd.mk ⟨Zcz 1, rfl, rfl⟩ ?_
    (conv => whnf)
    refine AppN.grow 1 (grC m) (Qa2 (⟨⟨6, 0, [], [], its⟩, none, 0, at0 ob0, ocap⟩ : Qaj)) rfl rfl ⟨Zcz 1, ⟨by show (m.length + 1) * 80 <= _; omega, by omega⟩, by decide⟩ fun ob2 oc2 hoc2 _ => ?_
    refine wXS ?_
    have hm2 : m.length + 1 = (m ++ [(⟨⟨6, 0, [], [], its⟩, none, 0, at0 ob0, ocap⟩ : Qaj)]).length := by simp
    have hg2 := Qf1 m ⟨⟨6, 0, [], [], its⟩, none, 0, at0 ob0, ocap⟩
    refine ⟨⟨i + 1, some ob2, oc2, m ++ [⟨⟨6, 0, [], [], its⟩, none, 0, at0 ob0, ocap⟩]⟩, ⟨by omega, by rw [<- hm2, hml], ?_, (fun h => by cases h), by rw [<- hm2]; exact hoc2⟩, by show n - (i + 1) < n - i; omega, ?_, [.fact (fun w => SlAt a (L.length * 1) (iC L) w), .app 57 5 (grC m ++ Qa2 ⟨⟨6, 0, [], [], its⟩, none, 0, at0 ob0, ocap⟩) (some ⟨ob2, 0, none⟩) (m.length + 1) oc2, .fact (fun w => ∀ q ∈ m ++ [(⟨⟨6, 0, [], [], its⟩, none, 0, at0 ob0, ocap⟩ : Qaj)], Qbn q w), .dead, .dead, .dead], Qkf ⟨.inr (.inl rfl), .inr (.inl rfl), .inr (.inr ⟨_, rfl, fun w hw q hq => ?_⟩), by repeat (first | exact trivial | refine ⟨.inl rfl, ?_⟩)⟩, ?_⟩
    ·intro q hq
     rcases Zmz.1 hq with hq | hq
     ·exact hmo q hq
     ·rw [Zgz.1 hq]
      exact hgp
    ·(repeat' (first | exact trivial | refine And.intro (by with_reducible rfl) ?_ | (with_reducible exact Qay _) | (with_reducible exact Qaq _) | refine And.intro ?_ ?_))
     all_goals first | rfl | exact Qes (by rw [Qaf (by omega)]; omega) | (rw [hm2]; rfl)
    ·rcases Zmz.1 hq with hq | hq
     ·exact hw.2.1 q hq
     ·rw [Zgz.1 hq]
      exact ⟨SlAt.nil, hw.2.2.1⟩
    ·show wkH _ [Ent.fact _, .app 57 5 (grC (m ++ [_])) _ (m ++ [_]).length _, _]
     rw [<- hm2, hg2]
     exact ⟨Qaa _, Qaa _, Qaa _, trivial⟩
   ·-- the cell is put behind the graph; ⟨⟨8, 0, t, nms, its⟩, at0 nb0, ncap, at0 ob0, ocap⟩: the cell, , .dead, .dead, .dead, .dead, .dead: what else is over, ⟨hw.2.2.1, hw.2.2.2.1⟩: its rows
    refine wXS ?_
    try refine Nd.mk ⟨Zcz 1, rfl, rfl⟩ ?_
    (conv => whnf)
    refine AppN.grow 1 (grC m) (Qa2 (⟨⟨8, 0, t, nms, its⟩, at0 nb0, ncap, at0 ob0, ocap⟩ : Qaj)) rfl rfl ⟨Zcz 1, ⟨by show (m.length + 1) * 80 <= _; omega, by omega⟩, by decide⟩ fun ob2 oc2 hoc2 _ => ?_
    refine wXS ?_
    have hm2 : m.length + 1 = (m ++ [(⟨⟨8, 0, t, nms, its⟩, at0 nb0, ncap, at0 ob0, ocap⟩ : Qaj)]).length := by simp
    have hg2 := Qf1 m ⟨⟨8, 0, t, nms, its⟩, at0 nb0, ncap, at0 ob0, ocap⟩
    refine ⟨⟨i + 1, some ob2, oc2, m ++ [⟨⟨8, 0, t, nms, its⟩, at0 nb0, ncap, at0 ob0, ocap⟩]⟩, ⟨by omega, by rw [<- hm2, hml], ?_, (fun h => by cases h), by rw [<- hm2]; exact hoc2⟩, by show n - (i + 1) < n - i; omega, ?_, [.fact (fun w => SlAt a (L.length * 1) (iC L) w), .app 57 5 (grC m ++ Qa2 ⟨⟨8, 0, t, nms, its⟩, at0 nb0, ncap, at0 ob0, ocap⟩) (some ⟨ob2, 0, none⟩) (m.length + 1) oc2, .fact (fun w => ∀ q ∈ m ++ [(⟨⟨8, 0, t, nms, its⟩, at0 nb0, ncap, at0 ob0, ocap⟩ : Qaj)], Qbn q w), .dead, .dead, .dead, .dead, .dead], Qkf ⟨.inr (.inl rfl), .inr (.inl rfl), .inr (.inr ⟨_, rfl, fun w hw q hq => ?_⟩), by repeat (first | exact trivial | refine ⟨.inl rfl, ?_⟩)⟩, ?_⟩
    ·intro q hq
     rcases Zmz.1 hq with hq | hq
     ·exact hmo q hq
     ·rw [Zgz.1 hq]
      exact hgp
    ·(repeat' (first | exact trivial | refine And.intro (by with_reducible rfl) ?_ | (with_reducible exact Qay _) | (with_reducible exact Qaq _) | refine And.intro ?_ ?_))
     all_goals first | rfl | exact Qes (by rw [Qaf (by omega)]; omega) | (rw [hm2]; rfl)
    ·rcases Zmz.1 hq with hq | hq
     ·exact hw.2.1 q hq
     ·rw [Zgz.1 hq]
      exact ⟨hw.2.2.1, hw.2.2.2.1⟩
    ·show wkH _ [Ent.fact _, .app 57 5 (grC (m ++ [_])) _ (m ++ [_]).length _, _]
     rw [<- hm2, hg2]
     exact ⟨Qaa _, Qaa _, Qaa _, trivial⟩
  have hkk : kd = 0 \/ kd = 1 \/ kd = 2 \/ kd = 3 \/ kd = 4 \/ kd = 5 \/ kd = 6 \/ kd = 7 \/ kd = 8 := by omega
  clear hkd hkb hXb
  rcases hkk with rfl | rfl | rfl | rfl | rfl | rfl | rfl | rfl | rfl
  ·refine wXS ?_
   refine ⟨.inl (0, 0, []), Qcc n _ _ _ (by decide), ?_, Qaa _, Qaa _, Qaa _, Qaa _, trivial⟩
   exact wKK
  ·refine wXS ?_
   refine ⟨.inl (1, 0, []), Qcc n _ _ _ (by decide), ?_, Qaa _, Qaa _, Qaa _, Qaa _, trivial⟩
   exact wKK
  ·refine wXS ?_
   refine ⟨.inl (2, 0, []), Qcc n _ _ _ (by decide), ?_, Qaa _, Qaa _, Qaa _, Qaa _, trivial⟩
   exact wKK
  ·refine wXS ?_
   generalize IntKind.i64.wrap (IntKind.i64.wrap (x.tmod 5) - 2) = nu at *
   refine wXS ?_
   refine ⟨.inl (3, nu, []), Qcc n _ _ _ (by decide), ?_, Qaa _, Qaa _, Qaa _, Qaa _, trivial⟩
   exact wKK
  ·refine wXS ?_
   rw [show x.tmod 4 = x % 4 by rw [Int.tmod_eq_emod_of_nonneg (by omega)]]
   have hj : x % 4 = 0 \/ x % 4 = 1 \/ x % 4 = 2 \/ x % 4 = 3 := by omega
   rcases hj with e | e | e | e <;> rw [e]
   ·refine wXS ?_
    refine ⟨.inl (4, 0, [97]), Qcc n _ _ _ (by decide), ?_, Qaa _, Qaa _, Qaa _, Qaa _, trivial⟩
    exact wKK
   ·refine wXS ?_
    refine ⟨.inl (4, 0, [98]), Qcc n _ _ _ (by decide), ?_, Qaa _, Qaa _, Qaa _, Qaa _, trivial⟩
    exact wKK
   ·refine wXS ?_
    refine ⟨.inl (4, 0, [35]), Qcc n _ _ _ (by decide), ?_, Qaa _, Qaa _, Qaa _, Qaa _, trivial⟩
    exact wKK
   ·refine wXS ?_
    refine ⟨.inl (4, 0, [97, 97]), Qcc n _ _ _ (by decide), ?_, Qaa _, Qaa _, Qaa _, Qaa _, trivial⟩
    exact wKK
  ·refine wXS ?_
   rw [show x.tmod 4 = x % 4 by rw [Int.tmod_eq_emod_of_nonneg (by omega)]]
   have hj : x % 4 = 0 \/ x % 4 = 1 \/ x % 4 = 2 \/ x % 4 = 3 := by omega
   rcases hj with e | e | e | e <;> rw [e]
   ·refine wXS ?_
    refine ⟨.inl (5, 0, [97]), Qcc n _ _ _ (by decide), ?_, Qaa _, Qaa _, Qaa _, Qaa _, trivial⟩
    exact wKK
   ·refine wXS ?_
    refine ⟨.inl (5, 0, [98]), Qcc n _ _ _ (by decide), ?_, Qaa _, Qaa _, Qaa _, Qaa _, trivial⟩
    exact wKK
   ·refine wXS ?_
    refine ⟨.inl (5, 0, [35]), Qcc n _ _ _ (by decide), ?_, Qaa _, Qaa _, Qaa _, Qaa _, trivial⟩
    exact wKK
   ·refine wXS ?_
    refine ⟨.inl (5, 0, [97, 97]), Qcc n _ _ _ (by decide), ?_, Qaa _, Qaa _, Qaa _, Qaa _, trivial⟩
    exact wKK
  ·refine wXS ?_
   have hc4 : IntKind.i64.wrap (x.tmod 4) = x % 4 := by rw [Int.tmod_eq_emod_of_nonneg (by omega)]; exact Qaf (by omega)
   refine LoopN.intro (Nat × List Int × BSt) (fun ⟨k, its, o⟩ => k <= 3 /\ its.length = k /\ (∀ y ∈ its, 0 <= y) /\ o.ok its.length)
    (fun ⟨k, its, o⟩ => mkS Tryz.f12.ntmps 0 [(0, .c (.v (.slice a L.length ca))), (3, .c (.v (.int .i64 (n : Int)))), (4, .c (.v (.slice (at0 ob) m.length oc))), (5, .c (.v (.int .i64 (i : Int)))), (6, .c (.v (.int .u64 x))), (7, .c (.lp 3 0)), (8, .c (.v (.int .i64 (k : Int))))])
    (fun ⟨k, its, o⟩ => [.fact (fun w => SlAt a (L.length * 1) (iC L) w), .app 57 5 (grC m) (at0 ob) m.length oc, .fact (fun w => ∀ p ∈ m, Qbn p w), .blk 57 (vs (Qa2 ⟨⟨6, 0, [], [], its⟩, none, 0, at0 o.ob, o.cap⟩)), .app 3 1 (iC its) (at0 o.ob) its.length o.cap]) (fun ⟨k, _, _⟩ => 4 - k) [.app 3 1 [] none 0 0] rfl (fun ⟨_, _, _⟩ => rfl) (fun ⟨_, _, _⟩ => rfl) (fun ⟨_, _, _⟩ _ => Qan rfl) ?_ ?_
   ·refine ⟨(0, [], ⟨none, 0⟩), ⟨Zkz _, rfl, (fun y h => by cases h), fun _ => ⟨rfl, rfl⟩, Zcz _, fun _ => rfl⟩, ?_, Qaa _, Qaa _, Qaa _, Qaa _, Qaa _, trivial⟩
    exact wKK
   rintro ⟨k, its, ⟨ob0, ocap⟩⟩ ⟨hk, hil, hip, ho⟩
   refine wXS ?_
   refine Qab (fun h2 => ?_) (fun h2 => ?_)
   ·rw [hc4] at h2
    ((conv => whnf); (repeat ((first | refine VrN.keep ?_ | refine BoxN.own ?_ | refine RwN.own ?_); (conv => whnf))))
    refine SeqN.plain ?_
    ((conv => whnf); (repeat ((first | refine VrN.keep ?_ | refine BoxN.own ?_ | refine RwN.own ?_); (conv => whnf))))
    refine DrawN.plan [0, 2, 4, 9] [(1, 1), (3, 1), (5, 1), (6, 1), (7, 1), (8, 1), (10, 1), (11, 0)] [(12, 0), (13, 0), (14, 0)] (by decide +kernel) ?_
    refine wXS ?_
    have hit := Qie x k 4 7 n hxb (by omega) (by decide) (by decide)
    simp only [Int.cast_ofNat_Int] at hit
    generalize (IntKind.i64.wrap (IntKind.u64.wrap (IntKind.u64.wrap (x.tdiv 4) + IntKind.u64.wrap (IntKind.u64.wrap (k : Int) * 7)))).tmod (n : Int) = it at *
    refine Nd.mk ⟨Zcz 1, rfl, rfl⟩ ?_
    (conv => whnf)
    refine AppN.grow 4 (iC its) [.int .i64 it] rfl rfl ⟨Zcz 1, ⟨by show (its.length + 1) * 8 <= _; omega, by show its.length + 1 < _; omega⟩, Nat.one_ne_zero⟩ fun wb wc hwc _ => ?_
    have hcl : iC its ++ [.int .i64 it] = iC (its ++ [it]) := by simp [iC]
    have hll : its.length + 1 = (its ++ [it]).length := by simp
    rw [hcl, hll]
    rw [hll] at hwc
    refine wXS ?_
    refine ⟨(k + 1, its ++ [it], ⟨some wb, wc⟩), ⟨by omega, by rw [<- hll, hil], ?_, (fun h => by cases h), hwc, fun h => by have : wc = 0 := h; omega⟩, by show 4 - (k + 1) < 4 - k; omega, ?_, Qaa _, Qaa _, Qaa _, Qaa _, Qaa _, trivial⟩
    ·intro y hy
     rcases Zmz.1 hy with hy | hy
     ·exact hip y hy
     ·rw [Zgz.1 hy]; exact hit
    exact wKK
   ·clear hc4
    have hna : at0 ob0 = none -> its = [] := fun h => by
     cases ob0 with
     | none => exact Zez (ho.1 rfl).1
     | some b => cases h
    have hoc2' : its.length <= ocap := ho.2.1
    refine wXS ?_
    refine ⟨.inr (.inl (its, ⟨ob0, ocap⟩)), ⟨⟨fun _ => rfl, hna, Zkz _, by show its.length <= _; omega, (fun s h => (by cases h)), Zkz _, Zcz _, hoc2'⟩, hip, by show its.length <= 4; omega, Zkz _, Zkz _⟩, ?_, Qaa _, Qaa _, Qaa _, Qaa _, Qaa _, trivial⟩
    exact wKK
  ·refine wXS ?_
   refine ⟨.inl (7, 0, []), Qcc n _ _ _ (by decide), ?_, Qaa _, Qaa _, Qaa _, Qaa _, trivial⟩
   exact wKK
  ·refine wXS ?_
   have hq2 : IntKind.u64.wrap (x.tdiv 2) = x / 2 := by rw [Int.tdiv_eq_ediv_of_nonneg (by omega)]; exact Qdr (by omega)
   have hc3 : IntKind.i64.wrap ((IntKind.u64.wrap (x.tdiv 2)).tmod 3) = x / 2 % 3 := by rw [hq2, Int.tmod_eq_emod_of_nonneg (by omega)]; exact Qaf (by omega)
   rw [show x.tmod 2 = x % 2 by rw [Int.tmod_eq_emod_of_nonneg (by omega)]]
   have hj : x % 2 = 0 \/ x % 2 = 1 := by omega
   rcases hj with e | e <;> rw [e]
   ·refine wXS ?_
    refine LoopN.intro (Nat × List (List UInt8) × BSt × List Int × BSt) (fun ⟨k, nms, o2, its, o⟩ => k <= 2 /\ nms.length = k /\ its.length = k /\ (∀ y ∈ its, 0 <= y) /\ (∀ s ∈ nms, s.length <= 2) /\ o2.ok nms.length /\ o.ok its.length)
     (fun ⟨k, nms, o2, its, o⟩ => mkS Tryz.f12.ntmps 0 [(0, .c (.v (.slice a L.length ca))), (3, .c (.v (.int .i64 (n : Int)))), (4, .c (.v (.slice (at0 ob) m.length oc))), (5, .c (.v (.int .i64 (i : Int)))), (6, .c (.v (.int .u64 x))), (7, .c (.lp 3 0)), (9, .c (.v (.int .i64 (k : Int))))])
     (fun ⟨k, nms, o2, its, o⟩ => [.fact (fun w => SlAt a (L.length * 1) (iC L) w), .app 57 5 (grC m) (at0 ob) m.length oc, .fact (fun w => ∀ p ∈ m, Qbn p w), .blk 57 (vs (Qa2 ⟨⟨8, 0, [67], nms, its⟩, at0 o2.ob, o2.cap, at0 o.ob, o.cap⟩)), .dead, .app 9 1 (strC nms) (at0 o2.ob) nms.length o2.cap, .app 3 1 (iC its) (at0 o.ob) its.length o.cap]) (fun ⟨k, _, _, _, _⟩ => 3 - k) [.app 9 1 [] none 0 0, .app 3 1 [] none 0 0] rfl (fun ⟨_, _, _, _, _⟩ => rfl) (fun ⟨_, _, _, _, _⟩ => rfl) (fun ⟨_, _, _, _, _⟩ _ => Qan rfl) ?_ ?_
    ·refine ⟨(0, [], ⟨none, 0⟩, [], ⟨none, 0⟩), ⟨Zkz _, rfl, rfl, (fun y h => by cases h), (fun y h => by cases h), ⟨fun _ => ⟨rfl, rfl⟩, Zcz _, fun _ => rfl⟩, fun _ => ⟨rfl, rfl⟩, Zcz _, fun _ => rfl⟩, ?_, Qaa _, Qaa _, Qaa _, Qaa _, trivial, Qaa _, Qaa _, trivial⟩
     exact wKK
    rintro ⟨k, nms, ⟨nb0, ncap⟩, its, ⟨ob0, ocap⟩⟩ ⟨hk, hnl, hil, hip, hnw, ho2, ho⟩
    refine wXS ?_
    refine Qab (fun h2 => ?_) (fun h2 => ?_)
    ·rw [hc3] at h2
     have hk01 : k = 0 \/ k = 1 := by omega
     rcases hk01 with rfl | rfl
     ·-- a name and an item are put behind; [64, 97]: the name, 0: the round
      ((conv => whnf); (repeat ((first | refine VrN.keep ?_ | refine BoxN.own ?_ | refine RwN.own ?_); (conv => whnf))))
      refine SeqN.plain ?_
      ((conv => whnf); (repeat ((first | refine VrN.keep ?_ | refine BoxN.own ?_ | refine RwN.own ?_); (conv => whnf))))
      refine SeqN.plain ?_
      ((conv => whnf); (repeat ((first | refine VrN.keep ?_ | refine BoxN.own ?_ | refine RwN.own ?_); (conv => whnf))))
      refine DrawN.plan [0, 3] [(1, 1), (2, 0), (4, 1), (5, 1), (6, 0)] [(7, 0), (8, 0), (9, 0)] (by decide +kernel) ?_
      refine wXS ?_
      refine AppN.grow 5 (strC nms) [.string (bs [64, 97])] rfl rfl ⟨Zcz 1, ⟨by show (nms.length + 1) * 16 <= _; omega, by show nms.length + 1 < _; omega⟩, Nat.one_ne_zero⟩ fun xb xc hxc _ => ?_
      have hcn : strC nms ++ [.string (bs [64, 97])] = strC (nms ++ [[64, 97]]) := by simp [strC]
      have hln : nms.length + 1 = (nms ++ [([64, 97] : List UInt8)]).length := by simp
      rw [hcn, hln]
      rw [hln] at hxc
      refine wXS ?_
      refine DrawN.plan [0, 2, 4, 9] [(1, 1), (3, 1), (5, 1), (6, 1), (7, 1), (8, 1), (10, 1), (11, 0)] [(12, 0), (13, 0), (14, 0)] (by decide +kernel) ?_
      refine wXS ?_
      have hit := Qie x 0 6 5 n hxb (by omega) (by decide) (by decide)
      simp only [Int.cast_ofNat_Int] at hit
      generalize hgi : (IntKind.i64.wrap (IntKind.u64.wrap (IntKind.u64.wrap (x.tdiv 6) + IntKind.u64.wrap (IntKind.u64.wrap (((0 : Nat) : Int)) * 5)))).tmod (n : Int) = it at *
      refine Nd.mk ⟨Zcz 1, rfl, rfl⟩ ?_
      (conv => whnf)
      refine AppN.grow 6 (iC its) [.int .i64 it] rfl rfl ⟨Zcz 1, ⟨by show (its.length + 1) * 8 <= _; omega, by show its.length + 1 < _; omega⟩, Nat.one_ne_zero⟩ fun wb wc hwc _ => ?_
      have hcl : iC its ++ [.int .i64 it] = iC (its ++ [it]) := by simp [iC]
      have hll : its.length + 1 = (its ++ [it]).length := by simp
      rw [hcl, hll]
      rw [hll] at hwc
      refine wXS ?_
      refine ⟨(0 + 1, nms ++ [([64, 97] : List UInt8)], ⟨some xb, xc⟩, its ++ [it], ⟨some wb, wc⟩), ⟨by omega, by rw [<- hln, hnl], by rw [<- hll, hil], ?_, ?_, ⟨(fun h => by cases h), hxc, fun h => by have : xc = 0 := h; omega⟩, (fun h => by cases h), hwc, fun h => by have : wc = 0 := h; omega⟩, by show 3 - (0 + 1) < 3 - 0; omega, ?_, Qaa _, Qaa _, Qaa _, Qaa _, trivial, Qaa _, Qaa _, trivial⟩
      ·intro y hy
       rcases Zmz.1 hy with hy | hy
       ·exact hip y hy
       ·rw [Zgz.1 hy]; exact hit
      ·intro y hy
       rcases Zmz.1 hy with hy | hy
       ·exact hnw y hy
       ·rw [Zgz.1 hy]; decide
      exact wKK
     ·-- a name and an item are put behind; [64, 98]: the name, 1: the round
      ((conv => whnf); (repeat ((first | refine VrN.keep ?_ | refine BoxN.own ?_ | refine RwN.own ?_); (conv => whnf))))
      refine SeqN.plain ?_
      ((conv => whnf); (repeat ((first | refine VrN.keep ?_ | refine BoxN.own ?_ | refine RwN.own ?_); (conv => whnf))))
      refine SeqN.plain ?_
      ((conv => whnf); (repeat ((first | refine VrN.keep ?_ | refine BoxN.own ?_ | refine RwN.own ?_); (conv => whnf))))
      refine DrawN.plan [0, 3] [(1, 1), (2, 0), (4, 1), (5, 1), (6, 0)] [(7, 0), (8, 0), (9, 0)] (by decide +kernel) ?_
      refine wXS ?_
      refine AppN.grow 5 (strC nms) [.string (bs [64, 98])] rfl rfl ⟨Zcz 1, ⟨by show (nms.length + 1) * 16 <= _; omega, by show nms.length + 1 < _; omega⟩, Nat.one_ne_zero⟩ fun xb xc hxc _ => ?_
      have hcn : strC nms ++ [.string (bs [64, 98])] = strC (nms ++ [[64, 98]]) := by simp [strC]
      have hln : nms.length + 1 = (nms ++ [([64, 98] : List UInt8)]).length := by simp
      rw [hcn, hln]
      rw [hln] at hxc
      refine wXS ?_
      refine DrawN.plan [0, 2, 4, 9] [(1, 1), (3, 1), (5, 1), (6, 1), (7, 1), (8, 1), (10, 1), (11, 0)] [(12, 0), (13, 0), (14, 0)] (by decide +kernel) ?_
      refine wXS ?_
      have hit := Qie x 1 6 5 n hxb (by omega) (by decide) (by decide)
      simp only [Int.cast_ofNat_Int] at hit
      generalize hgi : (IntKind.i64.wrap (IntKind.u64.wrap (IntKind.u64.wrap (x.tdiv 6) + IntKind.u64.wrap (IntKind.u64.wrap (((1 : Nat) : Int)) * 5)))).tmod (n : Int) = it at *
      refine Nd.mk ⟨Zcz 1, rfl, rfl⟩ ?_
      (conv => whnf)
      refine AppN.grow 6 (iC its) [.int .i64 it] rfl rfl ⟨Zcz 1, ⟨by show (its.length + 1) * 8 <= _; omega, by show its.length + 1 < _; omega⟩, Nat.one_ne_zero⟩ fun wb wc hwc _ => ?_
      have hcl : iC its ++ [.int .i64 it] = iC (its ++ [it]) := by simp [iC]
      have hll : its.length + 1 = (its ++ [it]).length := by simp
      rw [hcl, hll]
      rw [hll] at hwc
      refine wXS ?_
      refine ⟨(1 + 1, nms ++ [([64, 98] : List UInt8)], ⟨some xb, xc⟩, its ++ [it], ⟨some wb, wc⟩), ⟨by omega, by rw [<- hln, hnl], by rw [<- hll, hil], ?_, ?_, ⟨(fun h => by cases h), hxc, fun h => by have : xc = 0 := h; omega⟩, (fun h => by cases h), hwc, fun h => by have : wc = 0 := h; omega⟩, by show 3 - (1 + 1) < 3 - 1; omega, ?_, Qaa _, Qaa _, Qaa _, Qaa _, trivial, Qaa _, Qaa _, trivial⟩
      ·intro y hy
       rcases Zmz.1 hy with hy | hy
       ·exact hip y hy
       ·rw [Zgz.1 hy]; exact hit
      ·intro y hy
       rcases Zmz.1 hy with hy | hy
       ·exact hnw y hy
       ·rw [Zgz.1 hy]; decide
      exact wKK
    ·clear hc3
     have hna : at0 ob0 = none -> its = [] := fun h => by
      cases ob0 with
      | none => exact Zez (ho.1 rfl).1
      | some b => cases h
     have hnn : at0 nb0 = none -> nms = [] := fun h => by
      cases nb0 with
      | none => exact Zez (ho2.1 rfl).1
      | some b => cases h
     have hoc2' : its.length <= ocap := ho.2.1
     have hnc2' : nms.length <= ncap := ho2.2.1
     refine wXS ?_
     refine ⟨.inr (.inr ([67], nms, ⟨nb0, ncap⟩, its, ⟨ob0, ocap⟩)), ⟨⟨hnn, hna, by show nms.length <= _; omega, by show its.length <= _; omega, (fun s h => Zwz (hnw s h) (by decide)), Zaz rfl, hnc2', hoc2'⟩, hip, by show its.length <= 4; omega, by show nms.length <= 2; omega, Zaz rfl⟩, ?_, Qaa _, Qaa _, Qaa _, Qaa _, trivial, Qaa _, Qaa _, trivial⟩
     exact wKK
   ·refine wXS ?_
    refine LoopN.intro (Nat × List (List UInt8) × BSt × List Int × BSt) (fun ⟨k, nms, o2, its, o⟩ => k <= 2 /\ nms.length = k /\ its.length = k /\ (∀ y ∈ its, 0 <= y) /\ (∀ s ∈ nms, s.length <= 2) /\ o2.ok nms.length /\ o.ok its.length)
     (fun ⟨k, nms, o2, its, o⟩ => mkS Tryz.f12.ntmps 0 [(0, .c (.v (.slice a L.length ca))), (3, .c (.v (.int .i64 (n : Int)))), (4, .c (.v (.slice (at0 ob) m.length oc))), (5, .c (.v (.int .i64 (i : Int)))), (6, .c (.v (.int .u64 x))), (7, .c (.lp 3 0)), (9, .c (.v (.int .i64 (k : Int))))])
     (fun ⟨k, nms, o2, its, o⟩ => [.fact (fun w => SlAt a (L.length * 1) (iC L) w), .app 57 5 (grC m) (at0 ob) m.length oc, .fact (fun w => ∀ p ∈ m, Qbn p w), .blk 57 (vs (Qa2 ⟨⟨8, 0, [68], nms, its⟩, at0 o2.ob, o2.cap, at0 o.ob, o.cap⟩)), .dead, .app 9 1 (strC nms) (at0 o2.ob) nms.length o2.cap, .app 3 1 (iC its) (at0 o.ob) its.length o.cap]) (fun ⟨k, _, _, _, _⟩ => 3 - k) [.app 9 1 [] none 0 0, .app 3 1 [] none 0 0] rfl (fun ⟨_, _, _, _, _⟩ => rfl) (fun ⟨_, _, _, _, _⟩ => rfl) (fun ⟨_, _, _, _, _⟩ _ => Qan rfl) ?_ ?_
    ·refine ⟨(0, [], ⟨none, 0⟩, [], ⟨none, 0⟩), ⟨Zkz _, rfl, rfl, (fun y h => by cases h), (fun y h => by cases h), ⟨fun _ => ⟨rfl, rfl⟩, Zcz _, fun _ => rfl⟩, fun _ => ⟨rfl, rfl⟩, Zcz _, fun _ => rfl⟩, ?_, Qaa _, Qaa _, Qaa _, Qaa _, trivial, Qaa _, Qaa _, trivial⟩
     exact wKK
    rintro ⟨k, nms, ⟨nb0, ncap⟩, its, ⟨ob0, ocap⟩⟩ ⟨hk, hnl, hil, hip, hnw, ho2, ho⟩
    refine wXS ?_
    refine Qab (fun h2 => ?_) (fun h2 => ?_)
    ·rw [hc3] at h2
     have hk01 : k = 0 \/ k = 1 := by omega
     rcases hk01 with rfl | rfl
     ·-- a name and an item are put behind; [64, 97]: the name, 0: the round
      ((conv => whnf); (repeat ((first | refine VrN.keep ?_ | refine BoxN.own ?_ | refine RwN.own ?_); (conv => whnf))))
      refine SeqN.plain ?_
      ((conv => whnf); (repeat ((first | refine VrN.keep ?_ | refine BoxN.own ?_ | refine RwN.own ?_); (conv => whnf))))
      refine SeqN.plain ?_
      ((conv => whnf); (repeat ((first | refine VrN.keep ?_ | refine BoxN.own ?_ | refine RwN.own ?_); (conv => whnf))))
      refine DrawN.plan [0, 3] [(1, 1), (2, 0), (4, 1), (5, 1), (6, 0)] [(7, 0), (8, 0), (9, 0)] (by decide +kernel) ?_
      refine wXS ?_
      refine AppN.grow 5 (strC nms) [.string (bs [64, 97])] rfl rfl ⟨Zcz 1, ⟨by show (nms.length + 1) * 16 <= _; omega, by show nms.length + 1 < _; omega⟩, Nat.one_ne_zero⟩ fun xb xc hxc _ => ?_
      have hcn : strC nms ++ [.string (bs [64, 97])] = strC (nms ++ [[64, 97]]) := by simp [strC]
      have hln : nms.length + 1 = (nms ++ [([64, 97] : List UInt8)]).length := by simp
      rw [hcn, hln]
      rw [hln] at hxc
      refine wXS ?_
      refine DrawN.plan [0, 2, 4, 9] [(1, 1), (3, 1), (5, 1), (6, 1), (7, 1), (8, 1), (10, 1), (11, 0)] [(12, 0), (13, 0), (14, 0)] (by decide +kernel) ?_
      refine wXS ?_
      have hit := Qie x 0 6 5 n hxb (by omega) (by decide) (by decide)
      simp only [Int.cast_ofNat_Int] at hit
      generalize hgi : (IntKind.i64.wrap (IntKind.u64.wrap (IntKind.u64.wrap (x.tdiv 6) + IntKind.u64.wrap (IntKind.u64.wrap (((0 : Nat) : Int)) * 5)))).tmod (n : Int) = it at *
      refine Nd.mk ⟨Zcz 1, rfl, rfl⟩ ?_
      (conv => whnf)
      refine AppN.grow 6 (iC its) [.int .i64 it] rfl rfl ⟨Zcz 1, ⟨by show (its.length + 1) * 8 <= _; omega, by show its.length + 1 < _; omega⟩, Nat.one_ne_zero⟩ fun wb wc hwc _ => ?_
      have hcl : iC its ++ [.int .i64 it] = iC (its ++ [it]) := by simp [iC]
      have hll : its.length + 1 = (its ++ [it]).length := by simp
      rw [hcl, hll]
      rw [hll] at hwc
      refine wXS ?_
      refine ⟨(0 + 1, nms ++ [([64, 97] : List UInt8)], ⟨some xb, xc⟩, its ++ [it], ⟨some wb, wc⟩), ⟨by omega, by rw [<- hln, hnl], by rw [<- hll, hil], ?_, ?_, ⟨(fun h => by cases h), hxc, fun h => by have : xc = 0 := h; omega⟩, (fun h => by cases h), hwc, fun h => by have : wc = 0 := h; omega⟩, by show 3 - (0 + 1) < 3 - 0; omega, ?_, Qaa _, Qaa _, Qaa _, Qaa _, trivial, Qaa _, Qaa _, trivial⟩
      ·intro y hy
       rcases Zmz.1 hy with hy | hy
       ·exact hip y hy
       ·rw [Zgz.1 hy]; exact hit
      ·intro y hy
       rcases Zmz.1 hy with hy | hy
       ·exact hnw y hy
       ·rw [Zgz.1 hy]; decide
      exact wKK
     ·-- a name and an item are put behind; [64, 98]: the name, 1: the round
      ((conv => whnf); (repeat ((first | refine VrN.keep ?_ | refine BoxN.own ?_ | refine RwN.own ?_); (conv => whnf))))
      refine SeqN.plain ?_
      ((conv => whnf); (repeat ((first | refine VrN.keep ?_ | refine BoxN.own ?_ | refine RwN.own ?_); (conv => whnf))))
      refine SeqN.plain ?_
      ((conv => whnf); (repeat ((first | refine VrN.keep ?_ | refine BoxN.own ?_ | refine RwN.own ?_); (conv => whnf))))
      refine DrawN.plan [0, 3] [(1, 1), (2, 0), (4, 1), (5, 1), (6, 0)] [(7, 0), (8, 0), (9, 0)] (by decide +kernel) ?_
      refine wXS ?_
      refine AppN.grow 5 (strC nms) [.string (bs [64, 98])] rfl rfl ⟨Zcz 1, ⟨by show (nms.length + 1) * 16 <= _; omega, by show nms.length + 1 < _; omega⟩, Nat.one_ne_zero⟩ fun xb xc hxc _ => ?_
      have hcn : strC nms ++ [.string (bs [64, 98])] = strC (nms ++ [[64, 98]]) := by simp [strC]
      have hln : nms.length + 1 = (nms ++ [([64, 98] : List UInt8)]).length := by simp
      rw [hcn, hln]
      rw [hln] at hxc
      refine wXS ?_
      refine DrawN.plan [0, 2, 4, 9] [(1, 1), (3, 1), (5, 1), (6, 1), (7, 1), (8, 1), (10, 1), (11, 0)] [(12, 0), (13, 0), (14, 0)] (by decide +kernel) ?_
      refine wXS ?_
      have hit := Qie x 1 6 5 n hxb (by omega) (by decide) (by decide)
      simp only [Int.cast_ofNat_Int] at hit
      generalize hgi : (IntKind.i64.wrap (IntKind.u64.wrap (IntKind.u64.wrap (x.tdiv 6) + IntKind.u64.wrap (IntKind.u64.wrap (((1 : Nat) : Int)) * 5)))).tmod (n : Int) = it at *
      refine Nd.mk ⟨Zcz 1, rfl, rfl⟩ ?_
      (conv => whnf)
      refine AppN.grow 6 (iC its) [.int .i64 it] rfl rfl ⟨Zcz 1, ⟨by show (its.length + 1) * 8 <= _; omega, by show its.length + 1 < _; omega⟩, Nat.one_ne_zero⟩ fun wb wc hwc _ => ?_
      have hcl : iC its ++ [.int .i64 it] = iC (its ++ [it]) := by simp [iC]
      have hll : its.length + 1 = (its ++ [it]).length := by simp
      rw [hcl, hll]
      rw [hll] at hwc
      refine wXS ?_
      refine ⟨(1 + 1, nms ++ [([64, 98] : List UInt8)], ⟨some xb, xc⟩, its ++ [it], ⟨some wb, wc⟩), ⟨by omega, by rw [<- hln, hnl], by rw [<- hll, hil], ?_, ?_, ⟨(fun h => by cases h), hxc, fun h => by have : xc = 0 := h; omega⟩, (fun h => by cases h), hwc, fun h => by have : wc = 0 := h; omega⟩, by show 3 - (1 + 1) < 3 - 1; omega, ?_, Qaa _, Qaa _, Qaa _, Qaa _, trivial, Qaa _, Qaa _, trivial⟩
      ·intro y hy
       rcases Zmz.1 hy with hy | hy
       ·exact hip y hy
       ·rw [Zgz.1 hy]; exact hit
      ·intro y hy
       rcases Zmz.1 hy with hy | hy
       ·exact hnw y hy
       ·rw [Zgz.1 hy]; decide
      exact wKK
    ·clear hc3
     have hna : at0 ob0 = none -> its = [] := fun h => by
      cases ob0 with
      | none => exact Zez (ho.1 rfl).1
      | some b => cases h
     have hnn : at0 nb0 = none -> nms = [] := fun h => by
      cases nb0 with
      | none => exact Zez (ho2.1 rfl).1
      | some b => cases h
     have hoc2' : its.length <= ocap := ho.2.1
     have hnc2' : nms.length <= ncap := ho2.2.1
     refine wXS ?_
     refine ⟨.inr (.inr ([68], nms, ⟨nb0, ncap⟩, its, ⟨ob0, ocap⟩)), ⟨⟨hnn, hna, by show nms.length <= _; omega, by show its.length <= _; omega, (fun s h => Zwz (hnw s h) (by decide)), Zaz rfl, hnc2', hoc2'⟩, hip, by show its.length <= 4; omega, by show nms.length <= 2; omega, Zaz rfl⟩, ?_, Qaa _, Qaa _, Qaa _, Qaa _, trivial, Qaa _, Qaa _, trivial⟩
     exact wKK
 ·have hin : i = n := by omega
  subst hin
  refine wXS ?_
  refine LoopN.introS (Nat × List Qaj) (fun ⟨j, m⟩ => j <= i /\ m.length = i /\ (∀ p ∈ m, GrwC i p)) (fun ⟨j, m⟩ => mkS Tryz.f12.ntmps 0 [(0, .c (.v (.slice a L.length ca))), (3, .c (.v (.int .i64 (i : Int)))), (4, .c (.v (.slice (at0 ob) i oc))), (10, .c (.v (.int .i64 (j : Int))))]) (fun ⟨j, m⟩ => [.fact (fun w => SlAt a (L.length * 1) (iC L) w), .app 57 5 (grC m) (at0 ob) i oc, .fact (fun w => ∀ p ∈ m, Qbn p w)]) (fun ⟨j, _⟩ => i - j) [] rfl (fun _ => rfl) (fun _ => rfl) (fun _ _ => ⟨trivial, trivial, trivial, trivial⟩) ?_ ?_
  ·refine ⟨(0, m), ⟨Zkz _, hml, hmo⟩, ?_, _, Qog _, Qaa _, ?_, Qaa _, trivial⟩
   ·(repeat' (first | exact trivial | refine And.intro (by with_reducible rfl) ?_ | (with_reducible exact Qay _) | (with_reducible exact Qaq _) | refine And.intro ?_ ?_))
    all_goals first | rfl | rw [hml]
   ·rw [<- hml]; exact Qaa _
  rintro ⟨j, m2⟩ ⟨hj, hm2l, hm2o⟩
  refine wXS ?_
  refine Qab (fun h2 => ?_) (fun h2 => ?_)
  ·obtain ⟨p, hp⟩ : ∃ p, m2[j]? = some p := ⟨_, Zbz (by omega)⟩
   obtain ⟨gb, rfl⟩ : ∃ gb, ob = some gb := by
    cases ob with
    | none => have := hoa rfl; subst this; simp only [List.length_nil] at hml; omega
    | some gb => exact ⟨gb, rfl⟩
   obtain ⟨z, hz⟩ : ∃ z, L[j]? = some z := ⟨_, Zbz (by omega)⟩
   have hsa : a.isSome = true := by
    cases a with
    | none => rw [ha rfl] at hz; cases hz
    | some b => rfl
   refine wXS ?_
   refine Nd.mk ⟨rfl, by omega, by omega⟩ ?_
   refine wXS ?_
   refine LdN.fld (.int .i64 p.c.kind) rfl (fun w hw => hw.2.1) (by rw [Zdz]; exact Qau m2 j 0 (by decide) hp) ?_
   refine wXS ?_
   refine Qa0 (fun h7 => ?_) (fun h7 => ?_)
   rotate_left
   ·refine wXS ?_
    refine ⟨(j + 1, m2), ⟨by omega, hm2l, hm2o⟩, by show i - (j + 1) < i - j; omega, ?_, _, Qog _, Qaa _, Qaa _, Qaa _, trivial⟩
    exact wKK
   refine wXS ?_
   refine Nd.mk ⟨hsa, by omega, by omega⟩ ?_
   refine wXS ?_
   refine LdN.one (.int .i64 z) rfl (fun w hw => hw.1) (by rw [Zdz]; show (iC L)[j * 1]? = _; rw [Nat.mul_one]; exact Qcb hz) ?_
   refine wXR ?_
   have hXb := Qkd z
   generalize IntKind.u64.wrap z = X at *
   have hx0 : IntKind.u64.wrap (X.tdiv 9) = X / 9 := by rw [Int.tdiv_eq_ediv_of_nonneg (by omega)]; exact Qdr (by omega)
   rw [hx0]
   obtain ⟨x, hx⟩ : ∃ x, x = X / 9 := ⟨_, rfl⟩
   rw [<- hx]
   have hxb : 0 <= x /\ x <= 2049638230412172402 := by omega
   clear hx0 hXb
   refine SeqN.plain ?_
   refine wXR ?_
   refine DrawN.plan [0, 1, 2, 4, 6, 9] [(3, 1), (5, 1), (7, 1), (8, 1), (10, 1), (11, 0), (12, 1), (13, 1)] [(14, 0)] (by decide +kernel) ?_
   refine wXR ?_
   obtain ⟨v1, hv1⟩ : ∃ v, v = (IntKind.i64.wrap x).tmod (i : Int) := ⟨_, rfl⟩
   obtain ⟨v2, hv2⟩ : ∃ v, v = (IntKind.i64.wrap (IntKind.u64.wrap (x.tdiv 3))).tmod (i : Int) := ⟨_, rfl⟩
   rw [<- hv1, <- hv2]
   refine RwN.known [.int .i64 v1, .int .i64 v2] rfl fun ib => ?_
   refine wXR ?_
   refine Nd.mk ⟨rfl, by omega, by omega⟩ ?_
   refine wXR ?_
   have hgl2 : (grC m2).length = i * 5 := by rw [Qgr, hm2l]
   refine EffW.appTo (i := 1) (q := j * 5 + 4) (ys := [.slice (some ⟨ib, 0, none⟩) 2 2]) (grC (m2.set j (setI p [v1, v2] (some ⟨ib, 0, none⟩) 2))) 5 rfl (by rw [Zdz]; show AV.c (CV.v (Value.pointer (some (((⟨gb, 0, none⟩ : Addr).add (j * 5)).add 4)))) = _; rw [Qck, add_lit]) rfl rfl rfl rfl rfl (by show _ + 1 <= _ * 5; omega) (by rw [Qfw _ (by omega)]; exact Qk8 [v1, v2] _ 2 hp) rfl ?_
   have hpm := Ziz hp
   have hq1 : 0 <= v1 := by rw [hv1, Qaf (by omega)]; exact Int.tmod_nonneg _ (by omega)
   have hq2 : 0 <= v2 := by
    have : 0 <= x.tdiv 3 /\ x.tdiv 3 <= x := by rw [Int.tdiv_eq_ediv_of_nonneg hxb.1]; omega
    rw [hv2, Qdr (by omega), Qaf (by omega)]
    exact Int.tmod_nonneg _ (by omega)
   clear hv1 hv2
   have hi12 : i <= 12 := by omega
   refine wX ?_
   refine SeqN.join (List Int × Nat × Nat) (fun ⟨its, b, c⟩ => (∀ y ∈ its, 0 <= y) /\ 2 <= its.length /\ its.length <= 4 /\ its.take 2 = [v1, v2] /\ its.length <= c) (fun _ => mkS Tryz.f12.ntmps 0 [(0, .c (.v (.slice a L.length ca))), (3, .c (.v (.int .i64 (i : Int)))), (4, .c (.v (.slice (at0 (some gb)) i oc))), (10, .c (.v (.int .i64 (j : Int))))])
    (fun ⟨its, b, c⟩ => [.fact (fun w => SlAt a (L.length * 1) (iC L) w), .app 57 5 (grC (m2.set j (setI p its (some ⟨b, 0, none⟩) c))) (some ⟨gb, 0, none⟩) i oc, .fact (fun w => ∀ p ∈ m2, Qbn p w), .app 3 1 (iC its) (some ⟨b, 0, none⟩) its.length c])
    (fun _ _ => Zaz rfl) (fun _ _ => rfl) (fun _ _ => Qan rfl) ?_ ?_
   rotate_left
   ·rintro ⟨its, b, c⟩ ⟨hi0, hi2, hi4, htk, hic⟩
    have htk2 : (iC its).take 2 = iC [v1, v2] := by unfold iC; rw [<- List.map_take, htk]
    refine wXS ?_
    have hG : ∀ q ∈ m2.set j (setI p its (some ⟨b, 0, none⟩) c), GrwC i q := Qvh hm2o hpm b c hi0 hi4 hic
    have hlen : (m2.set j (setI p its (some ⟨b, 0, none⟩) c)).length = i := by rw [List.length_set, hm2l]
    have has := as_o (at0 (some gb)) oc (m2.set j (setI p its (some ⟨b, 0, none⟩) c)) (fun h => by cases h) (Qpe hG (by omega)) (fun q hq => (hG q hq).ok)
    rw [hlen] at has
    refine QAq (fun _ => rfl) has ?_ fun st hst => ?_
    ·exact fun w hw => ⟨by rw [hlen]; exact hw.2.1, Qm4 hpm hw.2.2.1 hw.2.2.2.1⟩
    obtain ⟨t, ht1, ht2⟩ := Qq8 st.oa st.oc st.m hst.oa (by have := congrArg List.length hst.c; simp only [List.length_map] at this; omega) hst.ok
    refine wXS ?_
    refine Qao (ht2 _ (fun w hw => hst.gr hw.2.2.2.2.1 hw.2.2.2.2.2.1)) ?_
    cases t with
    | true =>
     refine wXS ?_
     refine ⟨(j + 1, m2.set j (setI p its (some ⟨b, 0, none⟩) c)), ⟨by omega, hlen, hG⟩, by show i - (j + 1) < i - j; omega, ?_, [.fact (fun w => SlAt a (L.length * 1) (iC L) w), .app 57 5 (grC (m2.set j (setI p its (some ⟨b, 0, none⟩) c))) (some ⟨gb, 0, none⟩) i oc, .fact (fun w => ∀ q ∈ m2.set j (setI p its (some ⟨b, 0, none⟩) c), Qbn q w), .dead, .dead, .dead], Qkf ⟨.inr (.inl rfl), .inr (.inl rfl), .inr (.inr ⟨_, rfl, fun w hw => Qm4 hpm hw.2.1 hw.2.2.1⟩), by repeat (first | exact trivial | refine ⟨.inl rfl, ?_⟩)⟩, Qaa _, Qaa _, Qaa _, trivial⟩
     exact wKK
    | false =>
     have hp2 : (m2.set j (setI p its (some ⟨b, 0, none⟩) c))[j]? = some (setI p its (some ⟨b, 0, none⟩) c) := by rw [List.getElem?_set_self (by omega)]
     have hG2 : ∀ q ∈ m2.set j (setI p [v1, v2] (some ⟨b, 0, none⟩) c), GrwC i q := Qvh hm2o hpm b c (by simp [hq1, hq2]) (Zaz rfl) (by show 2 <= _; omega)
     have hlen2 : (m2.set j (setI p [v1, v2] (some ⟨b, 0, none⟩) c)).length = i := by rw [List.length_set, hm2l]
     have hgl3 : (grC (m2.set j (setI p its (some ⟨b, 0, none⟩) c))).length = i * 5 := by rw [Qgr, hlen]
     refine wXS ?_
     refine Nd.mk ⟨rfl, by omega, by omega⟩ ?_
     refine wXS ?_
     refine LdN.fld (.slice (some ⟨b, 0, none⟩) (List.length its) c) rfl (fun w hw => hw.2.1) (by rw [Zdz]; exact Qau _ j 4 (by decide) hp2) ?_
     refine wXS ?_
     refine ReadW.slc_h (ob := some b) rfl (by kernel_rfl) rfl rfl ⟨by decide, by first | decide | omega⟩ ?_
     refine wXS ?_
     refine Nd.mk ⟨rfl, by omega, by omega⟩ ?_
     refine wXS ?_
     refine EffW.appTo (i := 1) (q := j * 5 + 4) (ys := [.slice (some ⟨b, 0, none⟩) 2 c]) (grC (m2.set j (setI p [v1, v2] (some ⟨b, 0, none⟩) c))) 5 rfl (by rw [Zdz]; show AV.c (CV.v (Value.pointer (some (((⟨gb, 0, none⟩ : Addr).add (j * 5)).add 4)))) = _; rw [Qck, add_lit]) rfl rfl rfl rfl rfl (by show _ + 1 <= _ * 5; omega) (by rw [Qfw _ (by omega)]; have := Qk8 [v1, v2] (some ⟨b, 0, none⟩) c hp2; rw [List.set_set] at this; exact this) rfl ?_
     refine wXS ?_
     refine ⟨(j + 1, m2.set j (setI p [v1, v2] (some ⟨b, 0, none⟩) c)), ⟨by omega, hlen2, hG2⟩, by show i - (j + 1) < i - j; omega, ?_, [.fact (fun w => SlAt a (L.length * 1) (iC L) w), .app 57 5 (grC (m2.set j (setI p [v1, v2] (some ⟨b, 0, none⟩) c))) (some ⟨gb, 0, none⟩) i oc, .fact (fun w => ∀ q ∈ m2.set j (setI p [v1, v2] (some ⟨b, 0, none⟩) c), Qbn q w), .dead, .dead, .dead], Qkf ⟨.inr (.inl rfl), .inr (.inl rfl), .inr (.inr ⟨_, rfl, fun w hw => Qm4 hpm hw.2.1 (by have h := SlAt.take (j := 2) hw.2.2.1 (show 2 <= its.length * 1 by omega); rw [htk2] at h; exact h)⟩), by repeat (first | exact trivial | refine ⟨.inl rfl, ?_⟩)⟩, Qaa _, Qaa _, Qaa _, trivial⟩
     exact wKK
   refine wXS ?_
   refine Qab (fun h3 => ?_) (fun h3 => ?_)
   rotate_left
   ·refine wXS ?_
    refine ⟨([v1, v2], ib, 2), ⟨by simp [hq1, hq2], Zcz 2, Zaz rfl, rfl, Zcz 2⟩, ?_, Qaa _, Qaa _, Qaa _, Qaa _, trivial⟩
    exact wKK
   refine wXS ?_
   refine Qa0 (fun h4 => ?_) (fun h4 => ?_)
   rotate_left
   ·refine wXS ?_
    refine ⟨([v1, v2], ib, 2), ⟨by simp [hq1, hq2], Zcz 2, Zaz rfl, rfl, Zcz 2⟩, ?_, Qaa _, Qaa _, Qaa _, Qaa _, trivial⟩
    exact wKK
   have hp1 : (m2.set j (setI p [v1, v2] (some ⟨ib, 0, none⟩) 2))[j]? = some (setI p [v1, v2] (some ⟨ib, 0, none⟩) 2) := by rw [List.getElem?_set_self (by omega)]
   have hgl4 : (grC (m2.set j (setI p [v1, v2] (some ⟨ib, 0, none⟩) 2))).length = i * 5 := by rw [Qgr, List.length_set, hm2l]
   refine wXS ?_
   refine DrawN.plan [0, 1, 2, 3, 7, 10, 12, 15] [(4, 1), (5, 1), (6, 1), (8, 1), (9, 1), (11, 1), (13, 1), (14, 1), (16, 1), (17, 0)] [(18, 0), (19, 0), (20, 0), (21, 0)] (by decide +kernel) ?_
   refine wXS ?_
   refine Nd.mk ⟨rfl, by omega, by omega⟩ ?_
   refine wXS ?_
   refine LdN.fld (.slice (some ⟨ib, 0, none⟩) 2 2) rfl (fun w hw => hw.2.1) (by rw [Zdz]; exact Qau _ j 4 (by decide) hp1) ?_
   refine wXS ?_
   obtain ⟨w1, hw1⟩ : ∃ v, v = (IntKind.i64.wrap (IntKind.u64.wrap (x.tdiv 5))).tmod (i : Int) := ⟨_, rfl⟩
   obtain ⟨w2, hw2⟩ : ∃ v, v = (IntKind.i64.wrap (IntKind.u64.wrap (x.tdiv 7))).tmod (i : Int) := ⟨_, rfl⟩
   rw [<- hw1, <- hw2]
   have hq3 : 0 <= w1 := by
    have : 0 <= x.tdiv 5 /\ x.tdiv 5 <= x := by rw [Int.tdiv_eq_ediv_of_nonneg hxb.1]; omega
    rw [hw1, Qdr (by omega), Qaf (by omega)]
    exact Int.tmod_nonneg _ (by omega)
   have hq4 : 0 <= w2 := by
    have : 0 <= x.tdiv 7 /\ x.tdiv 7 <= x := by rw [Int.tdiv_eq_ediv_of_nonneg hxb.1]; omega
    rw [hw2, Qdr (by omega), Qaf (by omega)]
    exact Int.tmod_nonneg _ (by omega)
   clear hw1 hw2
   refine Nd.mk ⟨Zaz rfl, rfl, rfl⟩ ?_
   (conv => whnf)
   refine AppN.grow 3 [.int .i64 v1, .int .i64 v2] [.int .i64 w1, .int .i64 w2] rfl rfl ⟨Zaz rfl, ⟨by decide, by decide⟩, Nat.one_ne_zero⟩ fun wb wc hwc _ => ?_
   refine wXS ?_
   refine Nd.mk ⟨rfl, by omega, by omega⟩ ?_
   refine wXS ?_
   refine EffW.appTo (i := 1) (q := j * 5 + 4) (ys := [.slice (some ⟨wb, 0, none⟩) 4 wc]) (grC (m2.set j (setI p [v1, v2, w1, w2] (some ⟨wb, 0, none⟩) wc))) 5 rfl (by rw [Zdz]; show AV.c (CV.v (Value.pointer (some (((⟨gb, 0, none⟩ : Addr).add (j * 5)).add 4)))) = _; rw [Qck, add_lit]) rfl rfl rfl rfl rfl (by show _ + 1 <= _ * 5; omega) (by rw [Qfw _ (by omega)]; have := Qk8 [v1, v2, w1, w2] (some ⟨wb, 0, none⟩) wc hp1; rw [List.set_set] at this; exact this) rfl ?_
   refine wXS ?_
   refine ⟨([v1, v2, w1, w2], wb, wc), ⟨by simp [hq1, hq2, hq3, hq4], Zaz rfl, Zcz 4, rfl, hwc⟩, ?_, Qaa _, Qaa _, Qaa _, Qaa _, trivial⟩
   exact wKK
  ·have hjn : j = i := by omega
   subst hjn
   have hob : at0 ob = none -> m2 = [] := fun h => by
    cases ob with
    | none =>
     have := hoa rfl
     subst this
     simp only [List.length_nil] at hml
     exact Zez (by omega)
    | some b => cases h
   have hs2 := Qpe hm2o (by omega)
   refine wXS ?_
   refine Qdu Nat (fun k => k <= j) (fun k => mkS Tryz.f12.ntmps 0 [(3, .c (.v (.int .i64 (j : Int)))), (4, .c (.v (.slice (at0 ob) j oc))), (12, .c (.v (.int .i64 (k : Int))))]) (fun k => j - k) rfl (fun _ => rfl) 0 (Zkz _) ?_ ?_
   ·exact wKK
   intro k hk
   refine wXS ?_
   refine Qab (fun h3 => ?_) (fun h3 => ?_)
   ·obtain ⟨p, hp⟩ : ∃ p, m2[k]? = some p := ⟨_, Zbz (by omega)⟩
    have hpm := Ziz hp
    have hpo := hm2o p hpm
    have hpl := hpo.il
    have hsg : (at0 ob).isSome = true := by
     cases hq : at0 ob with
     | none => rw [hob hq] at hp; cases hp
     | some b => rfl
    refine wXS ?_
    refine Qdu Nat (fun e => e <= p.c.items.length) (fun e => mkS Tryz.f12.ntmps 0 [(3, .c (.v (.int .i64 (j : Int)))), (4, .c (.v (.slice (at0 ob) j oc))), (12, .c (.v (.int .i64 (k : Int)))), (13, .c (.v (.int .i64 (e : Int))))]) (fun e => p.c.items.length - e) rfl (fun _ => rfl) 0 (Zkz _) ?_ ?_
    ·exact wKK
    intro e he
    refine wXS ?_
    refine Nd.mk ⟨hsg, by omega, by omega⟩ ?_
    refine wXS ?_
    refine LdN.fld (.slice p.ia p.c.items.length p.ic) rfl (fun w hw => hw.2.1) (by rw [Zdz]; exact Qau m2 k 4 (by decide) hp) ?_
    refine wXS ?_
    refine Qab (fun h4 => ?_) (fun h4 => ?_)
    ·obtain ⟨y, hy⟩ : ∃ z, p.c.items[e]? = some z := ⟨_, Zbz (by omega)⟩
     have hya : p.ia.isSome = true := by
      cases hq : p.ia with
      | none => rw [hpo.ok.ia hq] at hy; cases hy
      | some b => rfl
     refine wXS ?_
     refine Nd.mk ⟨hsg, by omega, by omega⟩ ?_
     refine wXS ?_
     refine LdN.fld (.slice p.ia p.c.items.length p.ic) rfl (fun w hw => hw.2.1) (by rw [Zdz]; exact Qau m2 k 4 (by decide) hp) ?_
     refine wXS ?_
     refine Nd.mk ⟨hya, by omega, by omega⟩ ?_
     refine wXS ?_
     refine LdN.one (.int .i64 y) rfl (fun w hw => (hw.2.2.1 p hpm).2) (by rw [Zdz]; show (iC p.c.items)[e * 1]? = _; rw [Nat.mul_one]; exact Qcb hy) ?_
     refine wXS ?_
     refine Qab (fun h5 => absurd h5 (by have := hpo.it y (Ziz hy); omega)) (fun h5 => ?_)
     refine wXS ?_
     refine ⟨e + 1, by omega, by omega, ?_, wHH⟩
     exact wKK
    ·refine wXS ?_
     refine ⟨k + 1, by omega, by omega, ?_, wHH⟩
     exact wKK
   ·refine wXS ?_
    have has := as_o (at0 ob) oc m2 hob hs2 (fun q hq => (hm2o q hq).ok)
    rw [hm2l] at has
    refine QAq (fun _ => rfl) has ?_ fun st hst => ?_
    ·exact fun w hw => ⟨by rw [hm2l]; exact hw.2.1, hw.2.2.1⟩
    obtain ⟨t, ht1, ht2⟩ := Qq8 st.oa st.oc st.m hst.oa (by have := congrArg List.length hst.c; simp only [List.length_map] at this; omega) hst.ok
    refine wXS ?_
    refine Qao (ht2 _ (fun w hw => hst.gr hw.2.2.2.1 hw.2.2.2.2.1)) ?_
    cases t with
    | false =>
     refine wXS ?_
     exact Qfc (fun _ => True) ⟨none, 0, [], rfl, fun _ => rfl, (fun p h => by cases h), ⟨Zkz _, fun p h => by cases h⟩, .inl rfl, ⟨Zkz _, fun p h => by cases h⟩, fun w _ => ⟨SlAt.nil, fun p h => by cases h⟩⟩ fun w hw => trivial
    | true =>
     refine wXS ?_
     exact Qfc (GrF (at0 ob) m2) ⟨at0 ob, oc, m2, by rw [hm2l], hob, (fun p hp => (hm2o p hp).ok), hs2, .inr (by rw [<- hst.c]; exact ht1.1 rfl), ⟨by omega, fun p hp => ⟨(hm2o p hp).il, (hm2o p hp).nl, (hm2o p hp).tl⟩⟩, fun w hw => hw⟩ fun w hw => ⟨by rw [hm2l]; exact hw.2.1, hw.2.2.1⟩
open Go.Marshal
structure DR where
 v : Int
 st : PS
 p : RdP
 nm : List Qaj
structure QBs (R : Except Int (Int × St)) (S : List UInt8) (st : PS) (p : RdP) (i : DR) : Prop where
 ok : OkD i.st i.p
 m : i.p.m = p.m ++ i.nm
 cell : ∀ q ∈ i.nm, Qa5 q
 left : Left S i.st
 le : Le 0 st i.st
 lt : i.st.e = 0 -> i.st.s.length < st.s.length
 tel : Tel R i.v i.st
def Qwd (n : Nat) : Prop := ∀ (rb : Nat) (S : List UInt8) (st : PS) (p : RdP) (nm : List Qaj), S.length <= 20000 -> OkD st p -> Bd st -> Left S st -> st.e = 0 -> st.s.length < n -> SpecH Tryz.prog 86 [.c (.v (.pointer (some ⟨rb, 0, none⟩)))] (dE rb S st p nm) (RetG (ι := DR) (QBs (Qc8 n (toS st)) S st p) (fun i => .int .i64 i.v) (fun i => dE rb S i.st i.p (nm ++ i.nm)))
def itP (kind : Int) (l : List Int) (a : Option Addr) (cap : Nat) : Qaj := ⟨⟨kind, 0, [], [], l⟩, none, 0, a, cap⟩
structure ItD where
 l : List Int
 st : PS
 p : RdP
 nm : List Qaj
 a : Option Addr
 cap : Nat
structure Qwa (S : List UInt8) (st : PS) (pre : List Qaj) (kind : Int) (i : ItD) : Prop where
 ok : OkD i.st i.p
 m : i.p.m = pre ++ itP kind i.l i.a i.cap :: i.nm
 cell : ∀ q ∈ i.nm, Qa5 q
 left : Left S i.st
 le : Le 0 st i.st
 ll : i.l.length + i.st.s.length + liv i.st <= 30001
 la : i.a = none -> i.l = []
 lc : i.l.length <= i.cap
def Rest (f : St -> Except Int (Int × St)) (k : Nat) (R : Except Int (Unit × St)) (m : Nat) (st : PS) : Prop := (st.e = 0 -> Qdv f k m (toS st) = R) /\ (st.e ≠ 0 -> R = .error st.e)
theorem Rest.tel {f : St -> Except Int (Int × St)} {k : Nat} {R : Except Int (Unit × St)} {m : Nat} {st : PS} (h : Rest f k R m st) (hm : st.e = 0 -> m = 0) : Tel R () st := by
 by_cases h0 : st.e = 0
 ·have h1 := h.1 h0
  rw [hm h0] at h1
  rw [<- h1]
  exact Tel.ok h0
 ·rw [h.2 h0]
  exact ⟨rfl, h0⟩
def Qaz (st : PS) (x : Int) : PS := { st with cells := st.cells ++ [x] }
def putG (k : Nat) (c : Cell) (st : PS) : PS := { st with g := st.g.set k c }
theorem Qk4 {m : List Qaj} {g : List Cell} (h : m.map (·.c) = g) {k : Nat} {q : Qaj} (hk : m[k]? = some q) : g.getD k nilC = q.c := by
 rw [<- h, Zlz, List.getElem?_map, hk]
 rfl
theorem Qfy (pre nm : List Qaj) (q : Qaj) : (pre ++ q :: nm)[pre.length]? = some q := by rw [List.getElem?_append_right (Zcz _), Nat.sub_self]; rfl
theorem Qm9 (pre nm : List Qaj) (q r : Qaj) : (pre ++ q :: nm).set pre.length r = pre ++ r :: nm := by rw [List.set_append_right _ _ (Zcz _), Nat.sub_self]; rfl
theorem OkD.put {st : PS} {p : RdP} (ok : OkD st p) (k : Nat) (q : Qaj) (hk : k < p.m.length) : OkD (putG k q.c st) { p with m := p.m.set k q } :=
 ⟨by show (p.m.set k q).map (·.c) = st.g.set k q.c; rw [List.map_set, ok.g], (fun h => by have := ok.ga h; rw [this] at hk; exact absurd hk (Nat.not_lt_zero _)), ok.ca, ok.sa, ok.sw, ok.gx⟩
theorem Qrs (k : Nat) (c : Cell) (st : PS) : Le 0 st (putG k c st) := ⟨by show st.ss.length + st.s.length <= _; omega, Zcz _, by show _ <= (st.g.set k c).length; simp, fun h => by show (st.g.set k c).length <= _; simpa using h, by show st.cells.length + _ <= _ + (st.g.set k c).length; simp⟩
theorem Qy5 {S : List UInt8} {st : PS} {pre : List Qaj} {kind : Int} {it : ItD} (hi : Qwa S st pre kind it) {ds : PS} {dp : RdP} {dn : List Qaj} (dv : Int) (ok : OkD ds dp) (hm : dp.m = it.p.m ++ dn) (hc : ∀ q ∈ dn, Qa5 q) (hl : Left S ds) (le : Le 0 it.st ds) (lt : ds.e = 0 -> ds.s.length < it.st.s.length) (he : it.st.e = 0) (b cap : Nat) (hcap : it.l.length + 1 <= cap) :
  Qwa S st pre kind ⟨it.l ++ [dv], putG pre.length (itP kind (it.l ++ [dv]) (some ⟨b, 0, none⟩) cap).c ds, { dp with m := dp.m.set pre.length (itP kind (it.l ++ [dv]) (some ⟨b, 0, none⟩) cap) }, it.nm ++ dn, some ⟨b, 0, none⟩, cap⟩ := by
 have hm2 : dp.m = pre ++ itP kind it.l it.a it.cap :: (it.nm ++ dn) := by rw [hm, hi.m, Zuz, List.cons_append]
 refine ⟨ok.put _ _ (by rw [hm2]; simp), ?_, fun q hq => (Zmz.1 hq).elim (hi.cell q) (hc q), hl, (hi.le.trans le).trans (Qrs _ _ _), ?_, (fun h => by cases h), by show (it.l ++ [dv]).length <= cap; simpa using hcap⟩
 ·show dp.m.set pre.length _ = _
  rw [hm2, Qm9]
 ·show (it.l ++ [dv]).length + ds.s.length + liv (putG _ _ ds) <= _
  have h1 := hi.ll
  have h2 := le.s
  rw [Zhz, List.length_singleton]
  unfold liv at h1 ⊢
  rw [if_pos he] at h1
  show _ + (if ds.e = 0 then _ else _) <= _
  split
  ·rename_i h
   have := lt h
   omega
  ·omega
theorem Qug {f : St -> Except Int (Int × St)} {pre nm : List Qaj} {kind : Int} {l : List Int} {a : Option Addr} {cap : Nat} {R : Except Int (Unit × St)} {r : Nat} {st ds : PS} {dp : RdP} {dv : Int} (hr : Rest f pre.length R (r + 1) st) (he : st.e = 0) (tel : Tel (f (toS st)) dv ds) (ok : OkD ds dp) (hm : dp.m = pre ++ itP kind l a cap :: nm) (a2 : Option Addr) (cap2 : Nat) :
  Rest f pre.length R r (putG pre.length (itP kind (l ++ [dv]) a2 cap2).c ds) := by
 have h1 := hr.1 he
 unfold Qdv at h1
 refine ⟨fun h => ?_, fun h => ?_⟩
 ·have h0 : ds.e = 0 := h
  rw [tel.live h0] at h1
  have h1 : Qdv f pre.length r (putI pre.length dv (toS ds)) = R := h1
  rw [<- h1]
  congr 1
  have hg := Qk4 ok.g (k := pre.length) (q := itP kind l a cap) (by rw [hm]; exact Qfy _ _ _)
  unfold putI toS putG
  simp only [hg]
  rfl
 ·have h0 : ds.e ≠ 0 := h
  rw [tel.dead h0] at h1
  exact h1.symm
theorem Qml (a b c : List Qaj) : wkE (.fact fun w => ∀ q ∈ a ++ b ++ c, Qbn q w) (.fact fun w => ∀ q ∈ a ++ (b ++ c), Qbn q w) := by
 rw [Zuz]
 exact Qaa _
theorem Qqg {a : AV} {b n q : Nat} (h : a = .c (.v (.pointer (some ((Qb8 (some ⟨b, 0, none⟩) n).add q))))) : a = .c (.v (.pointer (some (Qb8 (some ⟨b, 0, none⟩) (n + q))))) := by
 rw [h]
 unfold Qb8
 rw [show (some (⟨b, 0, none⟩ : Addr)).getD default = ⟨b, 0, none⟩ from rfl, Qck, add_lit, Qck]
theorem Qvd (n : Nat) (hc : Qwd n) (rb : Nat) (S : List UInt8) (hS : S.length <= 20000) (st : PS) (p : RdP) (pre : List Qaj) (kind : Int) (each : Nat) (he1 : 1 <= each) (he2 : each <= 2) (ok : OkD st p) (hm2 : p.m = pre ++ [itP kind [] none 0]) (bd : Bd (Qaz st (pre.length : Int))) (hl : Left S st) (h0 : st.e = 0) (hn : st.s.length < n) (nm0 : List Qaj) :
  SpecH Tryz.prog 101 [.c (.v (.pointer (some ⟨rb, 0, none⟩))), .c (.v (.int .i64 (pre.length : Int))), .c (.v (.int .i64 (each : Int)))] (dE rb S st p nm0 ++ [ownI [] none 0])
   (RetG (ι := ItD) (fun i => Qwa S (Qaz st (pre.length : Int)) pre kind i /\ Tel (Marshal.bnd (numS maxN (toS (Qaz st (pre.length : Int)))) fun m s => Qdv (Qc8 n) pre.length (m * each) s) () i.st) (fun _ => .tuple #[]) (fun i => dE rb S i.st i.p (nm0 ++ i.nm) ++ [ownI i.l i.a i.cap])) := by
 refine ownC hm Tryz.func101 (by kernel_rfl) rfl rfl (fun _ _ => Qan rfl) (fun _ _ => Zaz rfl) ?_
 have hpl : p.m.length = pre.length + 1 := by rw [hm2]; simp
 have hbg := bd.g
 have hbc := bd.cl
 have hbc2 : st.cells.length + 1 <= st.g.length := by simpa [Qaz] using hbc
 have hbg2 : st.g.length <= 500 := hbg
 refine wX ?_
 refine LdN.one (a := some ⟨rb, 0, none⟩) (q := 3) (.slice p.ca st.cells.length p.cc) rfl (fun w hw => hw.1) rfl ?_
 refine wX ?_
 refine Nd.mk ⟨Zcz 1, rfl, rfl⟩ ?_
 (conv => whnf)
 refine AppN.grow 3 (iC st.cells) [.int .i64 (pre.length : Int)] rfl rfl ⟨Zcz 1, ⟨by show (st.cells.length + 1) * 8 <= _; omega, by omega⟩, by decide⟩ fun cb cc' g1 g2 => ?_
 refine wX ?_
 have e1 : iC st.cells ++ [.int .i64 (pre.length : Int)] = iC (st.cells ++ [(pre.length : Int)]) := by simp [iC]
 have e2 : st.cells.length + 1 = (st.cells ++ [(pre.length : Int)]).length := by simp
 rw [e1, e2]
 refine EffW.appTo (i := 0) (q := 3) (ys := [_]) (ddC S (Qaz st (pre.length : Int)) { p with ca := some ⟨cb, 0, none⟩, cc := cc' }) 6 rfl rfl rfl rfl rfl rfl rfl (Zaz rfl) rfl rfl ?_
 have ok1 : OkD (Qaz st (pre.length : Int)) { p with ca := some ⟨cb, 0, none⟩, cc := cc' } := ⟨ok.g, ok.ga, (fun h => by cases h), ok.sa, ok.sw, ok.gx⟩
 have hl1 : Left S (Qaz st (pre.length : Int)) := hl
 have h01 : (Qaz st (pre.length : Int)).e = 0 := h0
 have hn1 : (Qaz st (pre.length : Int)).s.length < n := hn
 have hm3 : ({ p with ca := some ⟨cb, 0, none⟩, cc := cc' } : RdP).m = pre ++ [itP kind [] none 0] := hm2
 have hnum := Qh9 rb S (by omega) (Qaz st (pre.length : Int)) ({ p with ca := some ⟨cb, 0, none⟩, cc := cc' } : RdP) nm0 hl1 maxN
 have hgm : (({ p with ca := some ⟨cb, 0, none⟩, cc := cc' } : RdP)).m.length = ((Qaz st (pre.length : Int))).g.length := by show p.m.length = st.g.length; rw [<- ok.g, List.length_map]
 obtain ⟨R, hR⟩ : ∃ R, (Marshal.bnd (numS maxN (toS (Qaz st (pre.length : Int)))) fun m s => Qdv (Qc8 n) pre.length (m * each) s) = R := ⟨_, rfl⟩
 rw [hR]
 have htel := (Ref.num maxN).tel h01
 have ok2 := ok1.same (Qb7 maxN (Qaz st (pre.length : Int)))
 have le2 := Qc4 maxN (Qaz st (pre.length : Int))
 have hl2 := hl1.num maxN
 have hm4 := Qea maxN (Qaz st (pre.length : Int))
 generalize numM maxN (Qaz st (pre.length : Int)) = q at hnum htel ok2 le2 hl2 hm4
 obtain ⟨m, st2⟩ := q
 simp only at hnum htel ok2 le2 hl2 hm4
 have hm5 : m <= 1000000000000000 := hm4
 have hrest : Rest (Qc8 n) pre.length R (m * each) st2 := by
  refine ⟨fun h => ?_, fun h => ?_⟩
  ·rw [<- hR, htel.live h]
   rfl
  ·rw [<- hR, htel.dead h]
   rfl
 refine wX ?_
 refine Qai (hnum) [0, 1, 2, 3, 4] rfl ⟨rfl, rfl, rfl, rfl, rfl, trivial⟩ rfl fun _ _ => ?_
 refine wX ?_
 refine LoopN.intro (Nat × ItD) (fun ⟨i, it⟩ => i <= m /\ Qwa S (Qaz st (pre.length : Int)) pre kind it /\ Rest (Qc8 n) pre.length R ((m - i) * each) it.st)
  (fun ⟨i, _⟩ => mkS Tryz.f101.ntmps 0 [(0, .c (.v (.pointer (some ⟨rb, 0, none⟩)))), (1, .c (.v (.int .i64 (pre.length : Int)))), (2, .c (.v (.int .i64 (each : Int)))), (6, .c (.v (.int .i64 (m : Int)))), (7, .c (.v (.int .i64 (i : Int))))])
  (fun ⟨_, it⟩ => dE rb S it.st it.p (nm0 ++ it.nm) ++ [ownI it.l it.a it.cap, .dead]) (fun ⟨i, _⟩ => m - i) [] rfl
  (fun _ => rfl) (fun _ => rfl) (fun _ _ => Qan rfl) ⟨(0, ⟨[], st2, ({ p with ca := some ⟨cb, 0, none⟩, cc := cc' } : RdP), [], none, 0⟩), ⟨Zkz _, ⟨ok2, hm3, (fun q hq => by cases hq), hl2, le2, ?_, fun _ => rfl, Zcz _⟩, hrest⟩, ?_, ?_⟩ ?_
 ·have := bd.pot
  have := le2.s
  unfold liv
  show 0 + st2.s.length + _ <= _
  have h9 : ((Qaz st (pre.length : Int))).s.length <= 30000 := by have := bd.pot; omega
  split <;> omega
 ·exact wKK
 ·refine ⟨Qaa _, Qaa _, ?_, Qaa _, Qaa _, Qaa _, wHH⟩
  show wkE (.fact _) (.fact fun w => ∀ q ∈ nm0 ++ [], Qbn q w)
  rw [List.append_nil]
  exact Qaa _
 rintro ⟨i, it⟩ ⟨h1, hi, hr⟩
 refine wX ?_
 by_cases hlt : i < m
 ·rw [show decide ((i : Int) < (m : Int)) = true by simpa using hlt]
  refine wX ?_
  refine LdN.one (a := some ⟨rb, 0, none⟩) (q := 5) (.int .i64 it.st.e) rfl (fun w hw => hw.1) rfl ?_
  refine wX ?_
  by_cases he : it.st.e = 0
  ·rw [show (it.st.e == 0) = true by rw [he]; rfl]
   refine wX ?_
   refine LoopN.intro (Nat × ItD) (fun ⟨k, it⟩ => k <= each /\ Qwa S (Qaz st (pre.length : Int)) pre kind it /\ Rest (Qc8 n) pre.length R ((m - i) * each - k) it.st)
    (fun ⟨k, _⟩ => mkS Tryz.f101.ntmps 0 [(0, .c (.v (.pointer (some ⟨rb, 0, none⟩)))), (1, .c (.v (.int .i64 (pre.length : Int)))), (2, .c (.v (.int .i64 (each : Int)))), (6, .c (.v (.int .i64 (m : Int)))), (7, .c (.v (.int .i64 (i : Int)))), (8, .c (.v (.int .i64 (k : Int))))])
    (fun ⟨_, it⟩ => dE rb S it.st it.p (nm0 ++ it.nm) ++ [ownI it.l it.a it.cap, .dead]) (fun ⟨k, _⟩ => each - k) [] rfl
    (fun _ => rfl) (fun _ => rfl) (fun _ _ => Qan rfl) ⟨(0, it), ⟨Zkz _, hi, hr⟩, ?_, ?_⟩ ?_
   ·exact wKK
   ·exact Qag _
   rintro ⟨k, it⟩ ⟨k1, hi, hr⟩
   refine wX ?_
   by_cases hk : k < each
   ·rw [show decide ((k : Int) < (each : Int)) = true by simpa using hk]
    refine wX ?_
    refine LdN.one (a := some ⟨rb, 0, none⟩) (q := 5) (.int .i64 it.st.e) rfl (fun w hw => hw.1) rfl ?_
    refine wX ?_
    by_cases he : it.st.e = 0
    ·rw [show (it.st.e == 0) = true by rw [he]; rfl]
     have hb := bd.le hi.le
     have hs4 := hi.le.s
     have hform := hc rb S it.st it.p (nm0 ++ it.nm) hS hi.ok hb hi.left he (by omega)
     refine wX ?_
     refine Qai hform [0, 1, 2, 3, 4] rfl ⟨rfl, rfl, rfl, rfl, rfl, trivial⟩ rfl fun d hd => ?_
     refine wX ?_
     have hll : it.l.length <= 30001 := by have := hi.ll; omega
     obtain ⟨dv, ds, dp, dn⟩ := d
     obtain ⟨ok4, hm6, hc6, hl6, le6, lt6, tel6⟩ := hd
     simp only at ok4 hm6 hc6 hl6 le6 lt6 tel6
     obtain ⟨dm, dga, dgc, dca, dcc, dsa, dsc⟩ := dp
     simp only at hm6
     have hml : dm.length = pre.length + 1 + it.nm.length + dn.length := by rw [hm6, hi.m]; simp; omega
     have hgk : dm[pre.length]? = some (itP kind it.l it.a it.cap) := by
      rw [hm6, hi.m, Zuz, List.cons_append]
      exact Qfy _ _ _
     obtain ⟨gb, rfl⟩ : ∃ b : Nat, dga = some ⟨b, 0, none⟩ := ok4.gx.resolve_left fun h => by
      have h9 : dm = [] := ok4.ga h
      rw [h9, List.length_nil] at hml
      omega
     have hgb : dm.length <= 500 := by
      have := (hb.le le6).g
      rw [<- ok4.g, List.length_map] at this
      exact this
     refine wX ?_
     refine DrawN.planC (fun w => SlAt (some ⟨rb, 0, none⟩) 6 (ddC S ds ⟨dm, some ⟨gb, 0, none⟩, dgc, dca, dcc, dsa, dsc⟩) w /\ SlAt (some ⟨gb, 0, none⟩) (dm.length * 5) (grC dm) w) [0, 4, 5, 9, 13] [(1, 1), (2, 2), (3, 1), (6, 1), (7, 2), (8, 1), (10, 1), (11, 2), (12, 1), (14, 0), (15, 0)] [(16, 0), (17, 0), (18, 0)] (by decide +kernel) (fun w hw => ⟨hw.1, hw.2.1⟩) ?_
     refine wXO ?_
     refine ReadC.one (a := some ⟨rb, 0, none⟩) (q := 2) (.slice (some ⟨gb, 0, none⟩) dm.length dgc) rfl rfl rfl (fun w hw => hw.1) rfl ?_
     refine wXO ?_
     refine ReadC.one (a := some ⟨rb, 0, none⟩) (q := 2) (.slice (some ⟨gb, 0, none⟩) dm.length dgc) rfl rfl rfl (fun w hw => hw.1) rfl ?_
     refine wXO ?_
     refine ReadC.idxA (e := 87) (sz := 5) pre.length rfl Tryz.underlying36 rfl rfl rfl rfl rfl (by omega) ?_
     refine wXO ?_
     refine ReadC.one (a := some ⟨gb, 0, none⟩) (q := pre.length * 5 + 4) (.slice it.a it.l.length it.cap) rfl (Qqg rfl) rfl (fun w hw => hw.2) (Qau _ _ 4 (by omega) hgk) ?_
     (conv => whnf)
     refine RwN.own ?_
     (conv => whnf)
     refine Nd.mk (fun w hw => ⟨hw.1, hw.2.1⟩) ?_
     (conv => whnf)
     refine Nd.mk ⟨Zcz 1, rfl, rfl⟩ ?_
     (conv => whnf)
     refine AppN.grow 5 (iC it.l) [.int .i64 dv] rfl rfl ⟨Zcz 1, ⟨by show (it.l.length + 1) * 8 <= _; omega, by omega⟩, by decide⟩ fun b' cap' g3 g4 => ?_
     (conv => whnf)
     refine Nd.mk (fun w hw => ⟨hw.1, hw.2.1⟩) ?_
     (conv => whnf)
     refine Nd.mk ⟨rfl, by omega, by omega⟩ ?_
     (conv => whnf)
     have e1 : iC it.l ++ [.int .i64 dv] = iC (it.l ++ [dv]) := by simp [iC]
     have e2 : it.l.length + 1 = (it.l ++ [dv]).length := by simp
     rw [e1, e2]
     have hq4 : pre.length * 5 + 4 < (grC dm).length := by rw [Qgr]; omega
     have hsi : setI (itP kind it.l it.a it.cap) (it.l ++ [dv]) (some ⟨b', 0, none⟩) cap' = itP kind (it.l ++ [dv]) (some ⟨b', 0, none⟩) cap' := rfl
     refine EffW.appTo (i := 1) (q := pre.length * 5 + 4) (ys := [.slice (some ⟨b', 0, none⟩) (it.l ++ [dv]).length cap']) (grC (dm.set pre.length (itP kind (it.l ++ [dv]) (some ⟨b', 0, none⟩) cap'))) 5 rfl (by rw [Zdz]; show AV.c (CV.v (Value.pointer (some (((⟨gb, 0, none⟩ : Addr).add (pre.length * 5)).add 4)))) = _; rw [Qck, add_lit]) rfl rfl rfl rfl rfl (by show pre.length * 5 + 4 + 1 <= dm.length * 5; omega) ((Qfw _ hq4).trans (by rw [<- hsi]; exact Qk8 (it.l ++ [dv]) _ cap' hgk)) rfl ?_
     refine wX ?_
     have hr2 : ∃ r, (m - i) * each - k = r + 1 /\ (m - i) * each - (k + 1) = r := ⟨(m - i) * each - (k + 1), by
      have h5 : 1 * each <= (m - i) * each := Nat.mul_le_mul_right _ (by omega)
      omega, rfl⟩
     obtain ⟨r, hr3, hr4⟩ := hr2
     rw [hr3] at hr
     refine ⟨(k + 1, ⟨it.l ++ [dv], putG pre.length (itP kind (it.l ++ [dv]) (some ⟨b', 0, none⟩) cap').c ds, ⟨dm.set pre.length (itP kind (it.l ++ [dv]) (some ⟨b', 0, none⟩) cap'), some ⟨gb, 0, none⟩, dgc, dca, dcc, dsa, dsc⟩, it.nm ++ dn, some ⟨b', 0, none⟩, cap'⟩), ⟨by omega, Qy5 hi dv ok4 hm6 hc6 hl6 le6 lt6 he b' cap' g3, ?_⟩, by show each - (k + 1) < each - k; omega, ?_, ?_⟩
     ·rw [hr4]
      exact Qug hr he tel6 ok4 (by show dm = _; rw [hm6, hi.m, Zuz, List.cons_append]) _ _
     ·exact wKK
     ·have hrc : ddC S (putG pre.length (itP kind (it.l ++ [dv]) (some ⟨b', 0, none⟩) cap').c ds) ⟨dm.set pre.length (itP kind (it.l ++ [dv]) (some ⟨b', 0, none⟩) cap'), some ⟨gb, 0, none⟩, dgc, dca, dcc, dsa, dsc⟩ = ddC S ds ⟨dm, some ⟨gb, 0, none⟩, dgc, dca, dcc, dsa, dsc⟩ := by simp [ddC, putG]
      refine ⟨?_, ?_, Qml _ _ _, Qaa _, Qaa _, Qaa _, wHH⟩
      ·show wkE (.app 109 6 (ddC S ds ⟨dm, some ⟨gb, 0, none⟩, dgc, dca, dcc, dsa, dsc⟩) _ 1 1) (.app 109 6 (ddC S (putG _ _ ds) _) _ 1 1)
       rw [hrc]
       exact Qaa _
      show wkE (.app 87 5 _ _ dm.length _) (.app 87 5 _ _ (dm.set _ _).length _)
      rw [List.length_set]
      exact Qaa _
    ·rw [show (it.st.e == 0) = false by simpa using he]
     refine wX ?_
     refine ⟨(i + 1, it), ⟨by omega, hi, fun h => absurd h he, hr.2⟩, by show m - (i + 1) < m - i; omega, ?_, Qag _⟩
     exact wKK
   ·rw [show decide ((k : Int) < (each : Int)) = false by simpa using hk]
    refine wX ?_
    have hrr : (m - i) * each - k = (m - (i + 1)) * each := by
     rw [show m - i = (m - (i + 1)) + 1 by omega, Nat.succ_mul]
     omega
    rw [hrr] at hr
    refine ⟨(i + 1, it), ⟨by omega, hi, hr⟩, by show m - (i + 1) < m - i; omega, ?_, Qag _⟩
    exact wKK
  ·rw [show (it.st.e == 0) = false by simpa using he]
   refine wX ?_
   exact ⟨it, ⟨hi, hr.tel fun h => absurd h he⟩, rfl, Qaa _, Qaa _, Qaa _, Qaa _, Qaa _, Qaa _, wHH⟩
 ·rw [show decide ((i : Int) < (m : Int)) = false by simpa using hlt]
  refine wX ?_
  exact ⟨it, ⟨hi, hr.tel fun h => by rw [show m - i = 0 by omega, Nat.zero_mul]⟩, rfl, Qaa _, Qaa _, Qaa _, Qaa _, Qaa _, Qaa _, wHH⟩
end Go.Proofs.YtgogonnnojcioaaGreatDoor
namespace Go.Scan
set_option maxRecDepth 20000
def pk (s : List UInt8) (i : Nat) : UInt8 := (s[i]?).getD 0
def Qmt (s : List UInt8) (i : Nat) : List UInt8 := (s.drop i).takeWhile wrd
theorem Qtv {c : UInt8} {s : List UInt8} {i j : Nat} (h : ((s.drop i).take j).all wrd = true) (hc : s[i + j]? = some c) : (wrd c = true -> ((s.drop i).take (j + 1)).all wrd = true) /\ (wrd c = false -> Qmt s i = (s.drop i).take j) := by
 have hg : (s.drop i)[j]? = some c := by rw [List.getElem?_drop]; exact hc
 refine ⟨fun hw => ?_, fun hw => ?_⟩
 ·rw [List.take_add_one, hg, List.all_append, h]
  simp [hw]
 ·have e : s.drop i = (s.drop i).take j ++ (c :: (s.drop i).drop (j + 1)) := by
   obtain ⟨hlt, hx⟩ := Zfz.1 hg
   conv => lhs; rw [<- List.take_append_drop j (s.drop i), List.drop_eq_getElem_cons hlt, hx]
  unfold Qmt
  conv => lhs; rw [e]
  rw [List.takeWhile_append_of_pos (fun x hx => Zqz.1 h x hx)]
  simp [hw]
theorem Qxr {s : List UInt8} {i j : Nat} (h : ((s.drop i).take j).all wrd = true) (hj : i + j = s.length) : Qmt s i = (s.drop i).take j := by
 have e : (s.drop i).take j = s.drop i := Zpz (by rw [List.length_drop]; omega)
 rw [e] at h ⊢
 unfold Qmt
 have := List.takeWhile_append_of_pos (l₂ := []) (fun x hx => Zqz.1 h x hx)
 simpa using this
def Qex (s : List UInt8) (p : Nat) : List UInt8 := if ltr (pk s p) then Qmt s p else []
def rcB (s : List UInt8) : Bool := !s.isEmpty && decide (s.length <= 40) && grt (hd s) && Qex s 0 == s
def riB (s : List UInt8) : Bool := decide (1 < s.length) && decide (s.length <= 40) && hd s == 64 && sml (pk s 1) && Qex s 1 == s.tail
theorem Qmv {s : List UInt8} : s.takeWhile wrd = s ↔ s.all wrd = true := by
 induction s with
 | nil => simp
 | cons c r ih =>
  rw [List.takeWhile_cons, List.all_cons]
  cases h : wrd c with
  | true => simpa using ih
  | false => simp
theorem Qyk (s : List UInt8) : Qmt s 0 = s.takeWhile wrd := by simp [Qmt]
theorem pk_0 (c : UInt8) (r : List UInt8) : pk (c :: r) 0 = c := rfl
theorem QAh (s : List UInt8) : icB s = rcB s := by
 refine Zsz.2 ?_
 cases s with
 | nil => simp [icB, rcB, iwB]
 | cons c r =>
  have h1 := Qvi c
  simp only [icB, rcB, iwB, hd, List.headD_cons, Qex, pk_0, Qyk, ZAz, Bool.not_eq_true', ZBz, beq_iff_eq, List.isEmpty_cons]
  constructor
  ·rintro ⟨⟨⟨⟨ha, _⟩, hl⟩, hd⟩, hs⟩
   have hw : wrd c = true := by rw [List.all_cons, ZAz] at ha; exact ha.1
   have hg := h1.1 ⟨hw, hd, hs⟩
   exact ⟨⟨⟨by simp, hl⟩, hg⟩, by rw [if_pos (Qqr hg)]; exact Qmv.2 ha⟩
  ·rintro ⟨⟨⟨_, hl⟩, hg⟩, he⟩
   rw [if_pos (Qqr hg)] at he
   obtain ⟨_, h3, h4⟩ := h1.2 hg
   exact ⟨⟨⟨⟨Qmv.1 he, by simp⟩, hl⟩, h3⟩, h4⟩
theorem QAg (s : List UInt8) : iiB s = riB s := by
 refine Zsz.2 ?_
 match s with
 | [] => simp [iiB, riB]
 | [c] => simp [iiB, riB]
 | c :: d :: r =>
  have hp : pk (c :: d :: r) 1 = d := rfl
  have hw : Qmt (c :: d :: r) 1 = (d :: r).takeWhile wrd := rfl
  simp only [iiB, riB, iwB, hd, List.headD_cons, List.tail_cons, Qex, hp, hw, ZAz, Bool.not_eq_true', ZBz, beq_iff_eq, List.isEmpty_cons]
  constructor
  ·rintro ⟨⟨⟨⟨h1, h2⟩, ⟨⟨ha, _⟩, _⟩, _⟩, hs⟩, hl⟩
   exact ⟨⟨⟨⟨h1, hl⟩, h2⟩, hs⟩, by rw [if_pos (Qkk hs).2.1]; exact Qmv.2 ha⟩
  ·rintro ⟨⟨⟨⟨h1, hl⟩, h2⟩, hs⟩, he⟩
   rw [if_pos (Qkk hs).2.1] at he
   exact ⟨⟨⟨⟨h1, h2⟩, ⟨⟨Qmv.1 he, by simp⟩, by simp at hl ⊢; omega⟩, (Qkk hs).2.2.1⟩, hs⟩, hl⟩
end Go.Scan
namespace Go.Proofs.YtgogonnnojcioaaGreatDoor
open Go.AX Go.RowKit Go.Scan
set_option maxRecDepth 20000
theorem Qwn (c : UInt8) : ∀ H, SpecH Tryz.prog 149 (pvs [.int .u8 (c.toNat : Int)]) H (Ret (.bool (sml c)) H) := by
 refine Qd1 hm Tryz.func149 (by kernel_rfl) rfl rfl ?_
 refine wX ?_
 (repeat' (first | (refine Qab (fun _ => ?_) (fun _ => ?_)) | (refine Qa0 (fun _ => ?_) (fun _ => ?_))))
 all_goals (first | refine wX ?_ | exact wZ)
 (repeat' (first | (refine Qab (fun _ => ?_) (fun _ => ?_)) | (refine Qa0 (fun _ => ?_) (fun _ => ?_))))
 all_goals (first | refine wX ?_ | exact wZ)
 (repeat' (first | (refine Qab (fun _ => ?_) (fun _ => ?_)) | (refine Qa0 (fun _ => ?_) (fun _ => ?_))))
 all_goals (first | refine wX ?_ | exact wZ)
 all_goals
  refine Qb0 ?_
  simp [sml]
  try omega
theorem Qw4 (c : UInt8) : ∀ H, SpecH Tryz.prog 147 (pvs [.int .u8 (c.toNat : Int)]) H (Ret (.bool (grt c)) H) := by
 refine Qd1 hm Tryz.func147 (by kernel_rfl) rfl rfl ?_
 refine wX ?_
 (repeat' (first | (refine Qab (fun _ => ?_) (fun _ => ?_)) | (refine Qa0 (fun _ => ?_) (fun _ => ?_))))
 all_goals (first | refine wX ?_ | exact wZ)
 (repeat' (first | (refine Qab (fun _ => ?_) (fun _ => ?_)) | (refine Qa0 (fun _ => ?_) (fun _ => ?_))))
 all_goals (first | refine wX ?_ | exact wZ)
 (repeat' (first | (refine Qab (fun _ => ?_) (fun _ => ?_)) | (refine Qa0 (fun _ => ?_) (fun _ => ?_))))
 all_goals (first | refine wX ?_ | exact wZ)
 all_goals
  refine Qb0 ?_
  simp [grt]
  try omega
theorem QAu (c : UInt8) : ∀ H, SpecH Tryz.prog 174 (pvs [.int .u8 (c.toNat : Int)]) H (Ret (.bool (dig c)) H) := by
 refine Qd1 hm Tryz.func174 (by kernel_rfl) rfl rfl ?_
 refine wX ?_
 (repeat' (first | (refine Qab (fun _ => ?_) (fun _ => ?_)) | (refine Qa0 (fun _ => ?_) (fun _ => ?_))))
 all_goals (first | refine wX ?_ | exact wZ)
 (repeat' (first | (refine Qab (fun _ => ?_) (fun _ => ?_)) | (refine Qa0 (fun _ => ?_) (fun _ => ?_))))
 all_goals (first | refine wX ?_ | exact wZ)
 (repeat' (first | (refine Qab (fun _ => ?_) (fun _ => ?_)) | (refine Qa0 (fun _ => ?_) (fun _ => ?_))))
 all_goals (first | refine wX ?_ | exact wZ)
 all_goals
  refine Qb0 ?_
  simp [dig]
  try omega
theorem Qra (s : List UInt8) (p : Nat) (hs : s.length <= 200000000000000) (hp : p <= 200000000000000) : ∀ H, SpecH Tryz.prog 148 (pvs [.string (bs s), .int .i64 (p : Int)]) H (Ret (.string (bs (Qex s p))) H) := by
 refine Qd1 hm Tryz.func148 (by kernel_rfl) rfl rfl ?_
 have hz := Qal s
 refine wX ?_
 rw [hz]
 refine Qab (fun h1 => ?_) (fun h1 => ?_)
 ·have hpk : pk s p = 0 := by unfold pk; rw [List.getElem?_eq_none (by omega)]; rfl
  have hw : Qex s p = [] := by unfold Qex; rw [hpk]; rfl
  rw [hw]
  refine wX ?_
  rfl
 ·obtain ⟨c, hc⟩ : ∃ c, s[p]? = some c := ⟨_, Zbz (by omega)⟩
  have hpk : pk s p = c := by unfold pk; rw [hc]; rfl
  refine wX ?_
  try refine Nd.mk ⟨by omega, by omega⟩ ?_
  refine wX ?_
  try rw [Zdz]
  rw [Qa6 hc]
  refine Qao (Qwn c _) ?_
  have key : ltr c = true -> Qex s p = Qmt s p := fun h => by unfold Qex; rw [hpk, if_pos h]
  ·cases hsm : sml c with
   | true =>
    rw [key (by simp [ltr, hsm])]
    refine wX ?_
    refine Qdu Nat (fun j => p + j <= s.length /\ ((s.drop p).take j).all wrd = true) (fun j => mkS Tryz.f148.ntmps 0 [(0, .c (.v (.string (bs s)))), (1, .c (.v (.int .i64 (p : Int)))), (5, .c (.v (.int .i64 ((p + j : Nat) : Int))))]) (fun j => s.length - j) rfl (fun _ => rfl) 0 ⟨by omega, by simp⟩ ?_ ?_
    ·exact wKK
    rintro j ⟨hj, hall⟩
    refine wX ?_
    rw [hz]
    refine Qab (fun h2 => ?_) (fun h2 => ?_)
    ·obtain ⟨d, hd⟩ : ∃ d, s[p + j]? = some d := ⟨_, Zbz (by omega)⟩
     obtain ⟨ht1, ht2⟩ := Qtv hall hd
     refine wX ?_
     try refine Nd.mk ⟨by omega, by omega⟩ ?_
     refine wX ?_
     try rw [Zdz]
     rw [Qa6 hd]
     refine Qao (Qwn d _) ?_
     cases hs3 : sml d with
     | true =>
      have hwd : wrd d = true := by simp [wrd, ltr, hs3]
      refine wX ?_
      refine ⟨j + 1, ⟨by omega, ht1 hwd⟩, by omega, ?_, wHH⟩
      exact wKK
     | false =>
      refine wX ?_
      try refine Nd.mk ⟨by omega, by omega⟩ ?_
      refine wX ?_
      try rw [Zdz]
      rw [Qa6 hd]
      refine Qao (Qw4 d _) ?_
      cases hg3 : grt d with
      | true =>
       have hwd : wrd d = true := by simp [wrd, ltr, hg3]
       refine wX ?_
       refine ⟨j + 1, ⟨by omega, ht1 hwd⟩, by omega, ?_, wHH⟩
       exact wKK
      | false =>
       refine wX ?_
       try refine Nd.mk ⟨by omega, by omega⟩ ?_
       refine wX ?_
       try rw [Zdz]
       rw [Qa6 hd]
       refine Qao (QAu d _) ?_
       cases hd3 : dig d with
       | true =>
        have hwd : wrd d = true := by simp [wrd, hd3]
        refine wX ?_
        refine ⟨j + 1, ⟨by omega, ht1 hwd⟩, by omega, ?_, wHH⟩
        exact wKK
       | false =>
        have hwd := ht2 (by simp [wrd, ltr, hs3, hg3, hd3])
        refine wX ?_
        refine ReadW.sl_lh p (p + j) rfl Tryz.underlying9 rfl rfl rfl ⟨rfl, rfl, by omega, by omega⟩ ?_
        refine wX ?_
        rw [hwd, List.take_drop]
    ·have hwd := Qxr hall (by omega)
     refine wX ?_
     refine ReadW.sl_lh p (p + j) rfl Tryz.underlying9 rfl rfl rfl ⟨rfl, rfl, by omega, by omega⟩ ?_
     refine wX ?_
     rw [hwd, List.take_drop]
   | false =>
    refine wX ?_
    try refine Nd.mk ⟨by omega, by omega⟩ ?_
    refine wX ?_
    try rw [Zdz]
    rw [Qa6 hc]
    refine Qao (Qw4 c _) ?_
    cases hg : grt c with
    | true =>
     rw [key (by simp [ltr, hg])]
     refine wX ?_
     refine Qdu Nat (fun j => p + j <= s.length /\ ((s.drop p).take j).all wrd = true) (fun j => mkS Tryz.f148.ntmps 0 [(0, .c (.v (.string (bs s)))), (1, .c (.v (.int .i64 (p : Int)))), (5, .c (.v (.int .i64 ((p + j : Nat) : Int))))]) (fun j => s.length - j) rfl (fun _ => rfl) 0 ⟨by omega, by simp⟩ ?_ ?_
     ·exact wKK
     rintro j ⟨hj, hall⟩
     refine wX ?_
     rw [hz]
     refine Qab (fun h2 => ?_) (fun h2 => ?_)
     ·obtain ⟨d, hd⟩ : ∃ d, s[p + j]? = some d := ⟨_, Zbz (by omega)⟩
      obtain ⟨ht1, ht2⟩ := Qtv hall hd
      refine wX ?_
      try refine Nd.mk ⟨by omega, by omega⟩ ?_
      refine wX ?_
      try rw [Zdz]
      rw [Qa6 hd]
      refine Qao (Qwn d _) ?_
      cases hs3 : sml d with
      | true =>
       have hwd : wrd d = true := by simp [wrd, ltr, hs3]
       refine wX ?_
       refine ⟨j + 1, ⟨by omega, ht1 hwd⟩, by omega, ?_, wHH⟩
       exact wKK
      | false =>
       refine wX ?_
       try refine Nd.mk ⟨by omega, by omega⟩ ?_
       refine wX ?_
       try rw [Zdz]
       rw [Qa6 hd]
       refine Qao (Qw4 d _) ?_
       cases hg3 : grt d with
       | true =>
        have hwd : wrd d = true := by simp [wrd, ltr, hg3]
        refine wX ?_
        refine ⟨j + 1, ⟨by omega, ht1 hwd⟩, by omega, ?_, wHH⟩
        exact wKK
       | false =>
        refine wX ?_
        try refine Nd.mk ⟨by omega, by omega⟩ ?_
        refine wX ?_
        try rw [Zdz]
        rw [Qa6 hd]
        refine Qao (QAu d _) ?_
        cases hd3 : dig d with
        | true =>
         have hwd : wrd d = true := by simp [wrd, hd3]
         refine wX ?_
         refine ⟨j + 1, ⟨by omega, ht1 hwd⟩, by omega, ?_, wHH⟩
         exact wKK
        | false =>
         have hwd := ht2 (by simp [wrd, ltr, hs3, hg3, hd3])
         refine wX ?_
         refine ReadW.sl_lh p (p + j) rfl Tryz.underlying9 rfl rfl rfl ⟨rfl, rfl, by omega, by omega⟩ ?_
         refine wX ?_
         rw [hwd, List.take_drop]
     ·have hwd := Qxr hall (by omega)
      refine wX ?_
      refine ReadW.sl_lh p (p + j) rfl Tryz.underlying9 rfl rfl rfl ⟨rfl, rfl, by omega, by omega⟩ ?_
      refine wX ?_
      rw [hwd, List.take_drop]
    | false =>
     have hw : Qex s p = [] := by unfold Qex; rw [hpk, if_neg (by simp [ltr, hsm, hg])]
     rw [hw]
     refine wX ?_
     rfl
theorem Qtg (s : List UInt8) (hs : s.length <= 200000000000000) : ∀ H, SpecH Tryz.prog 124 (pvs [.string (bs s)]) H (Ret (.bool (icB s)) H) := by
 refine Qd1 hm Tryz.func124 (by kernel_rfl) rfl rfl ?_
 rw [QAh]
 have hz := Qal s
 cases s with
 | nil =>
  refine wX ?_
  try exact Qb0 (by simp [rcB])
 | cons x r =>
  refine wX ?_
  rw [hz]
  refine Qab (fun h1 => ?_) (fun h1 => ?_)
  ·have hdec : decide ((x :: r).length <= 40) = true := decide_eq_true (by omega)
   refine wX ?_
   try refine Nd.mk ⟨by omega, by rw [hz]; show (0 : Int) < ((r.length + 1 : Nat) : Int); omega⟩ ?_
   refine wX ?_
   rw [show Qcx (bs (x :: r)) (Int.toNat 0) = (x.toNat : Int) from Qa6 (l := x :: r) (i := 0) rfl]
   refine Qao (Qw4 x _) ?_
   cases hg : grt x with
   | false =>
    refine wX ?_
    exact Qb0 (by simp [rcB, hd, hg])
   | true =>
    refine wX ?_
    refine Qao (Qra (x :: r) 0 hs (by omega) _) ?_
    refine wX ?_
    refine Qb0 ?_
    simp only [rcB, hdec, hd, List.headD_cons, hg]
    exact Iff.rfl
  ·have hdec : decide ((x :: r).length <= 40) = false := decide_eq_false (by omega)
   refine wX ?_
   exact Qb0 (by simp only [rcB, hdec]; simp)
theorem Qv9 (s : List UInt8) (hs : s.length <= 200000000000000) : ∀ H, SpecH Tryz.prog 125 (pvs [.string (bs s)]) H (Ret (.bool (iiB s)) H) := by
 refine Qd1 hm Tryz.func125 (by kernel_rfl) rfl rfl ?_
 rw [QAg]
 have hz := Qal s
 refine wX ?_
 rw [hz]
 refine Qab (fun h1 => ?_) (fun h1 => ?_)
 ·match s, hs, hz, h1 with
  | [], _, _, h1 => exact absurd h1 (by decide)
  | [_], _, _, h1 => exact absurd h1 (by simp)
  | c :: d :: r, hs, hz, h1 =>
   have h64 : ((c.toNat : Int) == 64) = (c == 64) := Qyn (n := 64) (by decide)
   have hl : (c :: d :: r).length = r.length + 2 := rfl
   have hd1 : decide (1 < (c :: d :: r).length) = true := by simp
   refine wX ?_
   rw [hz]
   refine Qab (fun h2 => ?_) (fun h2 => ?_)
   ·have hdec : decide ((c :: d :: r).length <= 40) = true := decide_eq_true (by omega)
    refine wX ?_
    try refine Nd.mk ⟨by omega, by rw [hz]; omega⟩ ?_
    refine wX ?_
    rw [show Qcx (bs (c :: d :: r)) (Int.toNat 0) = (c.toNat : Int) from Qa6 (l := c :: d :: r) (i := 0) rfl, h64]
    cases e64 : c == 64 with
    | false =>
     refine wX ?_
     exact Qb0 (by simp only [riB, hd, List.headD_cons, e64]; simp)
    | true =>
     refine wX ?_
     try refine Nd.mk ⟨by omega, by rw [hz]; omega⟩ ?_
     refine wX ?_
     rw [show Qcx (bs (c :: d :: r)) (Int.toNat 1) = (d.toNat : Int) from Qa6 (l := c :: d :: r) (i := 1) rfl]
     refine Qfd (Qwn d _) ?_
     have hp1 : pk (c :: d :: r) 1 = d := rfl
     cases hs2 : sml d with
     | false =>
      refine wX ?_
      exact Qb0 (by simp only [riB, hp1, hs2]; simp)
     | true =>
      refine wX ?_
      refine Qfd (Qra (c :: d :: r) 1 hs (by omega) _) ?_
      refine wX ?_
      refine ReadW.sl_l 1 rfl Tryz.underlying9 rfl rfl ⟨rfl, by omega⟩ ?_
      refine wX ?_
      refine Qb0 ?_
      simp only [riB, hd1, hdec, hd, List.headD_cons, e64, hp1, hs2]
      exact Iff.rfl
   ·have hdec : decide ((c :: d :: r).length <= 40) = false := decide_eq_false (by omega)
    refine wX ?_
    exact Qb0 (by simp only [riB, hdec]; simp)
 ·have hdec : decide (1 < s.length) = false := decide_eq_false (by omega)
  refine wX ?_
  exact Qb0 (by simp only [riB, hdec]; simp)
end Go.Proofs.YtgogonnnojcioaaGreatDoor
namespace Go.AX
theorem Qz7 {P : Program} (hm : P.follows .mixedOrders = true) {f : FuncId} {fn : Func} {c : Code} (hf : P.funcs[f]? = some fn) (hn : (fn.name == "runtime.NumGoroutine") = false) (hb : fn.body = some c)
  {args : List AV} {H : List Ent} (hl : Nat.ble args.length fn.ntmps = true) {ι : Type} {inv : ι -> Prop} {val : ι -> Value} {G : ι -> List Ent} (hok : ∀ i, inv i -> okH (G i).length (G i)) (hl2 : ∀ i, inv i -> H.length <= (G i).length)
  (h : Qhq fn.ntmps args fun s => Qi5 P c s H (endK P fn.results.toList fun out H' => ∃ i, inv i /\ out = .val (.c (.v (val i))) /\ wkH H' (G i))) : SpecH P f args H (RetG inv val G) :=
 SpecH.wkG hok hl2 (Qfr hm hf hn hb hl h)
end Go.AX
