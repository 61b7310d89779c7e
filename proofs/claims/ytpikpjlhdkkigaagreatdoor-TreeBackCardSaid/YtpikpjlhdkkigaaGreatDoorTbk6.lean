/-
  Lemmas (Q4 V2 Ax48 Ax51 Ax53 Ax58 V3 V4 Ax43 Ax49 V5 V6 Ax60 Q5 V7).
-/
import Derived.WideKeyRuns
import Derived.Test.YtpikpjlhdkkigaaGreatDoorTbk5
set_option linter.unusedVariables false
set_option linter.unusedSimpArgs false
namespace Go.Proofs.YtpikpjlhdkkigaaGreatDoor
open Go.AX Go.RowKit Go.Tree Go.Scan
set_option maxRecDepth 20000
theorem plsC_get {p : Pl} : ∀ {l : List Pl} {i : Nat}, l[i]? = some p → ∀ j, j < 2 → (plsC l)[i * 2 + j]? = (plC p)[j]?
 | [], i, h, _, _ => by cases h
 | q :: l, 0, h, j, hj => by
  obtain rfl := Option.some.inj h
  show (plC q ++ plsC l)[0 * 2 + j]? = _
  rw [Nat.zero_mul, Nat.zero_add, List.getElem?_append_left hj]
 | q :: l, i + 1, h, j, hj => by
  show (plC q ++ plsC l)[(i + 1) * 2 + j]? = _
  rw [List.getElem?_append_right (show 2 ≤ _ by omega), show (i + 1) * 2 + j - (plC q).length = i * 2 + j by show _ - 2 = _; omega]
  exact plsC_get (l := l) (i := i) h j hj
theorem plsC_len : ∀ l : List Pl, (plsC l).length = l.length * 2
 | [] => rfl
 | q :: l => by
  show (plC q ++ plsC l).length = _
  rw [List.length_append, plsC_len l, List.length_cons]
  show 2 + _ = _
  omega
theorem plsC_app (l m : List Pl) : plsC (l ++ m) = plsC l ++ plsC m := List.flatMap_append ..
theorem plsC_set {p q : Pl} {l : List Pl} {i : Nat} (h : l[i]? = some p) : (plsC l).take (i * 2) ++ plC q ++ (plsC l).drop (i * 2 + 2) = plsC (l.set i q) := by
 obtain ⟨u, v, rfl, hu, hset⟩ := split_at h
 have e1 : i * 2 = (plsC u).length := by rw [plsC_len, hu]
 rw [hset, plsC_app, plsC_app, e1, List.take_left]
 show _ ++ (plsC u ++ (plC p ++ plsC v)).drop _ = _ ++ (plC q ++ plsC v)
 rw [← List.append_assoc, show (plsC u).length + 2 = (plsC u ++ plC p).length by rw [List.length_append]; rfl, List.drop_left, List.append_assoc]
structure Resc (st st' : RvS) (m slot : Nat) (r : Nm × Pl) : Prop where
 ok : RvOk st' m
 g : ScG st.sc st'.sc
 nm : nmS st'.sc = r.1
 pl : st'.pl = st.pl.set slot r.2
 un : st'.un = st.un
set_option maxHeartbeats 4000000 in
theorem rescue_c (A : World → Prop) (rb : Nat) (st : RvS) {m : Nat} (ok : RvOk st m) (hm2 : m < 100000) (ch : List Nat) (o : Option Nat) (hch : ChP st.sc ch o) (hne : ch ≠ []) (x : List UInt8) (slot : Nat) (hslot : slot < st.pl.length) :
  SpecH Tryz.prog 58 (pvs [.pointer (some ⟨rb, 0, none⟩), ptrO o, .string (bs x), .int .i64 (slot : Int)]) (rvE A rb st)
  (RetG (ι := RvS) (fun st' => Resc st st' (m + 1) slot (sets (nmS st.sc) ch x)) (fun _ => .tuple #[]) fun st' => rvE A rb st') := by
 have hpm := ok.pm
 refine ownC hm Tryz.func58 (by kernel_rfl) rfl rfl (fun _ _ => okHB_eq rfl) (fun _ _ => Nat.le_of_ble_eq_true rfl) ?_
 refine wX ?_
 refine SpecH.mono (declare_c A rb st ok hm2 ch o hch hne x false) ?_
 rintro _ _ ⟨st1, w1, rfl, rfl⟩
 generalize hp : sets (nmS st.sc) ch x = q at w1 ⊢
 obtain ⟨nm', p⟩ := q
 obtain ⟨sc1, pl1, un1, sa1, scap1, pa1, pcap1⟩ := st1
 obtain ⟨ok1, g1, nm1, hpl, un1'⟩ := w1
 obtain rfl : pl1 = st.pl ++ [p] := hpl
 obtain ⟨pb, rfl⟩ : ∃ pb, pa1 = some pb := by
  cases pa1 with
  | none => have := ok1.pn rfl; simp at this
  | some b => exact ⟨b, rfl⟩
 have hll : (st.pl ++ [p]).length = st.pl.length + 1 := by rw [List.length_append]; rfl
 (conv => whnf)
 refine DrawN.plan [0, 4, 5, 9] [(1, 1), (2, 1), (3, 1), (6, 1), (7, 1), (8, 1), (10, 1), (11, 1), (12, 1), (13, 1), (14, 1), (15, 1), (16, 1), (17, 1)] [(18, 0)] (by decide +kernel) ?_
 refine wX ?_
 refine LdN.one (a := some ⟨rb, 0, none⟩) (q := 1) (.slice (at0 (some pb)) (st.pl ++ [p]).length pcap1) rfl (fun w hw => hw.2.1) rfl ?_
 refine wX ?_
 refine LdN.one (a := some ⟨rb, 0, none⟩) (q := 1) (.slice (at0 (some pb)) (st.pl ++ [p]).length pcap1) rfl (fun w hw => hw.2.1) rfl ?_
 refine wX ?_
 refine LdN.one (a := some ⟨rb, 0, none⟩) (q := 1) (.slice (at0 (some pb)) (st.pl ++ [p]).length pcap1) rfl (fun w hw => hw.2.1) rfl ?_
 refine wX ?_
 have hw1 : IntKind.i64.wrap (((st.pl ++ [p]).length : Int) - 1) = (st.pl.length : Int) := by rw [hll, wrap_i64 (by omega)]; omega
 rw [hw1]
 refine Nd.mk ⟨rfl, by omega, by omega⟩ ?_
 refine wX ?_
 refine LdN.agg (plC p) rfl (fun w hw => hw.2.2.2.1) rfl (fun j hj => by
  show (plsC (st.pl ++ [p]))[Int.toNat _ * 2 + j]? = _
  rw [Int.toNat_natCast]
  exact plsC_get (by simp) j hj) ?_
 refine wX ?_
 refine Nd.mk ⟨rfl, by omega, by omega⟩ ?_
 refine wX ?_
 refine EffW.appTo (i := 3) (q := slot * 2) (ys := plC p) (plsC ((st.pl ++ [p]).set slot p)) 2 rfl ?_ rfl rfl rfl rfl rfl ?_ ?_ rfl ?_
 ·show AV.c (CV.v (.pointer (some (elemAddr (at0 (some pb)) (Int.toNat (slot : Int) * 2))))) = _
  rw [Int.toNat_natCast]
  simp [elemAddr, at0, Addr.add]
  exact fun h => h.symm
 ·show slot * 2 + 2 ≤ (st.pl ++ [p]).length * 2
  omega
 ·exact plsC_set (show (st.pl ++ [p])[slot]? = some (st.pl[slot]) by rw [List.getElem?_append_left hslot]; exact List.getElem?_eq_getElem hslot)
 (conv => whnf)
 refine DrawN.plan [0, 1, 5] [(2, 1), (3, 1), (4, 1), (6, 1), (7, 1), (8, 1), (9, 1), (10, 1), (11, 1), (12, 1), (13, 1)] [(14, 0)] (by decide +kernel) ?_
 refine wX ?_
 refine LdN.one (a := some ⟨rb, 0, none⟩) (q := 1) (.slice (at0 (some pb)) (st.pl ++ [p]).length pcap1) rfl (fun w hw => hw.2.1) rfl ?_
 refine wX ?_
 refine LdN.one (a := some ⟨rb, 0, none⟩) (q := 1) (.slice (at0 (some pb)) (st.pl ++ [p]).length pcap1) rfl (fun w hw => hw.2.1) rfl ?_
 refine wX ?_
 rw [hw1]
 refine ReadW.slc_h (ob := some pb) (j := (st.pl.length : Int)) rfl (by kernel_rfl) rfl rfl ⟨by omega, by have := ok1.pl; have h : (st.pl ++ [p]).length ≤ pcap1 := this; omega⟩ ?_
 refine wX ?_
 rw [Int.toNat_natCast]
 refine EffW.appTo (i := 1) (q := 1) (ys := [_]) (rvC ⟨sc1, st.pl.set slot p, un1, sa1, scap1, some pb, pcap1⟩) 3 rfl rfl rfl rfl rfl rfl rfl (Nat.le_of_ble_eq_true rfl) (by simp [rvC, at0]) rfl ?_
 refine wX ?_
 have hset : (st.pl ++ [p]).set slot p = st.pl.set slot p ++ [p] := List.set_append_left _ _ hslot
 have hsl : (st.pl.set slot p).length = st.pl.length := List.length_set
 have hpl1 : (st.pl ++ [p]).length ≤ pcap1 := ok1.pl
 have hpm1 : (st.pl ++ [p]).length ≤ m + 1 := ok1.pm
 refine ⟨⟨sc1, st.pl.set slot p, un1, sa1, scap1, some pb, pcap1⟩, ⟨⟨ok1.sc, ok1.sl, ok1.sn, ok1.sm, ?_, fun h => (by cases h), ?_, ok1.nl, ok1.top⟩, g1, nm1, rfl, ?_⟩, rfl, ⟨wkE_refl _, wkE_refl _, wkE_refl _, wkE_cut ?_ ?_, wkE_refl _, wkE_refl _, wkH_nil _⟩⟩
 ·show (st.pl.set slot p).length ≤ pcap1
  omega
 ·show (st.pl.set slot p).length ≤ m + 1
  omega
 ·have h : un1 = (st.un || false) := un1'
  rw [Bool.or_false] at h
  exact h
 ·show (st.pl.set slot p).length ≤ (st.pl ++ [p]).length
  omega
 ·show plsC (st.pl.set slot p) = (plsC ((st.pl ++ [p]).set slot p)).take ((st.pl.set slot p).length * 2)
  rw [hset, plsC_app, ← plsC_len, List.take_left]
theorem isLocal_c (s : List UInt8) (hs : s.length ≤ 1048576) (h : loB s = true) : ∀ H, (∀ w, Facts H w → ScanF w) → SpecH Tryz.prog 28 (pvs [.string (bs s)]) H (Ret (.bool true) H) := by
 refine factC hm Tryz.func28 (by kernel_rfl) rfl rfl ?_
 have h0 : (inB s && !kwB s) = true ∧ endB s = false := by
  unfold loB at h
  cases h1 : endB s with
  | true => rw [h1] at h; simp at h
  | false => rw [h1] at h; exact ⟨by simpa using h, rfl⟩
 cases s with
 | nil => exact absurd h (by decide)
 | cons x r =>
  have hz := bs_size (x :: r)
  have hl1 : (x :: r).length = r.length + 1 := rfl
  obtain ⟨c, hc⟩ : ∃ c, (x :: r)[r.length]? = some c := ⟨_, List.getElem?_eq_getElem (by simp)⟩
  have hlast : (x :: r).getLast? = some c := by rw [List.getLast?_eq_getElem?]; exact hc
  have hw1 : IntKind.i64.wrap (((x :: r).length : Int) - 1) = ((r.length : Nat) : Int) := by rw [wrap_i64 (by omega)]; omega
  have h63 : ((c.toNat : Int) != 63) = (c != 63) := by have h := u8_eq (c := c) (n := 63) (by decide); exact congrArg not h
  have h33 : ((c.toNat : Int) != 33) = (c != 33) := by have h := u8_eq (c := c) (n := 33) (by decide); exact congrArg not h
  have he : (c == 63) = false ∧ (c == 33) = false := by
   have := h0.2
   unfold endB at this
   rw [hlast] at this
   simpa using this
  have k63 : (c != 63) = true := by rw [bne, he.1]; rfl
  have k33 : (c != 33) = true := by rw [bne, he.2]; rfl
  refine wX ?_
  refine call1 (IsName_c (x :: r) (by omega) _ (fun w hw => hw.1)) ?_
  rw [h0.1]
  refine wX ?_
  rw [hz, hw1]
  refine Nd.mk ⟨by omega, by omega⟩ ?_
  refine wX ?_
  rw [Int.toNat_natCast, byteAt_get hc, h63, k63]
  refine wX ?_
  rw [hz, hw1]
  refine Nd.mk ⟨by omega, by omega⟩ ?_
  refine wX ?_
  rw [Int.toNat_natCast, byteAt_get hc, h33, k33]
def Hx (n : Nat) : Prop := ∀ t, t.sz < n → TreeK t → V .ex t → Yes 46 t
theorem expr_c {n : Nat} (hx : Hx n) {t : TP} (ht : t.sz < n) (hk : TreeK t) (hv : V .ex t) : Yes 79 t := by
 refine factC hm Tryz.func79 (by kernel_rfl) rfl rfl ?_
 refine wX ?_
 refine call1 (Expr_c t.op (V.exOp hv) _) ?_
 refine wX ?_
 refine call1 (hx t ht hk hv _ (fun w hw => hw.1)) ?_
 exact wZ
theorem seq_c {n : Nat} (hx : Hx n) {t : TP} (ht : t.sz < n) (hk : TreeK t) (hv : V .ex t) (ho : t.op = 26) : Yes 20 t := by
 refine factC hm Tryz.func20 (by kernel_rfl) rfl rfl ?_
 refine wX ?_
 refine brd_eq (fun _ => ?_) (fun h => absurd ho h)
 refine wX ?_
 refine call1 (hx t ht hk hv _ (fun w hw => hw.1)) ?_
 exact wZ
theorem exprsn_c {n : Nat} (hx : Hx n) {t : TP} (ht : t.sz < n) (hk : TreeK t) (hv : V .ex t) : ∀ H, (∀ w, Facts H w → ScanF w ∧ TreeF w t ∧ True) → SpecH Tryz.prog 117 (pvs [nodeV t] ++ pvs (#[] : Array Value).toList) H (Ret (.bool false) H) := by
 refine factC (xs := [nodeV t]) hm Tryz.func117 (by kernel_rfl) rfl rfl ?_
 refine wX ?_
 refine call1 (expr_c hx ht hk hv _ (fun w hw => ⟨hw.1.1, hw.1.2.1⟩)) ?_
 refine wX ?_
 rfl
def Sm (n : Nat) (r : Ro) (l : List TP) : Prop := ∀ k ∈ l, k.sz < n ∧ V r k
set_option maxHeartbeats 4000000 in
theorem exprs_c {n : Nat} (hx : Hx n) {l : List TP} (hl : Sm n .ex l) : YesL 83 l := fun a cap hk => by
 refine factC hm Tryz.func83 (by kernel_rfl) rfl rfl ?_
 refine wX ?_
 refine call1 (NoFn_c 117 #[] a l cap (fun _ => True) hk (fun k h => exprsn_c hx (hl k h).1 (hk.k k h) (hl k h).2) _ (fun w hw => ⟨hw.1.1, hw.1.2, trivial⟩)) ?_
 refine wX ?_
 rfl
def shOk (n : Nat) : List UInt8 → List TP → Prop
 | [], [] => True
 | c :: s, k :: l => (k.sz < n ∧ V .ex k ∧ (c = 101 ∨ (c = 115 ∧ k.op = 26))) ∧ shOk n s l
 | _, _ => False
theorem shOk.len {n : Nat} : ∀ {s : List UInt8} {l : List TP}, shOk n s l → l.length = s.length
 | [], [], _ => rfl
 | _ :: _, _ :: _, h => by rw [List.length_cons, List.length_cons, h.2.len]
 | [], _ :: _, h => h.elim
 | _ :: _, [], h => h.elim
theorem shOk.get {n : Nat} : ∀ {s : List UInt8} {l : List TP}, shOk n s l → ∀ (i : Nat) (c : UInt8) (k : TP), s[i]? = some c → l[i]? = some k → k.sz < n ∧ V .ex k ∧ (c = 101 ∨ (c = 115 ∧ k.op = 26))
 | _ :: _, _ :: _, h, 0, c, k, hc, hk => by
  obtain rfl := Option.some.inj hc
  obtain rfl := Option.some.inj hk
  exact h.1
 | _ :: _, _ :: _, h, i + 1, c, k, hc, hk => h.2.get i c k hc hk
 | [], [], _, _, _, _, hc, _ => by cases hc
 | [], _ :: _, h, _, _, _, _, _ => h.elim
 | _ :: _, [], h, _, _, _, _, _ => h.elim
set_option maxHeartbeats 4000000 in
theorem shaped_c {n : Nat} (hx : Hx n) (s : List UInt8) (l : List TP) (h : shOk n s l) (hs : s.length ≤ 10) (a : Option Addr) (cap : Nat) (hk : LsK a cap l) : ∀ H, (∀ w, Facts H w → ScanF w ∧ LsF a l w) → SpecH Tryz.prog 64 (pvs [.slice a l.length cap, .string (bs s)]) H (Ret (.bool true) H) := by
 refine factC hm Tryz.func64 (by kernel_rfl) rfl rfl ?_
 have hz := bs_size s
 have hl := h.len
 refine wX ?_
 rw [hz]
 refine brd_ne (fun h0 => by omega) (fun _ => ?_)
 refine wX ?_
 refine loopS Nat (fun i => i ≤ l.length) (fun i => mkS Tryz.f64.ntmps 0 [(0, .c (.v (.slice a l.length cap))), (1, .c (.v (.string (bs s)))), (12, .c (.v (.slice a l.length cap))), (13, .c (.v (.int .i64 (l.length : Int)))), (14, .c (.v (.int .i64 (i : Int))))]) (fun i => l.length - i) rfl (fun _ => rfl) 0 (Nat.zero_le _) ?_ fun i hi => ?_
 ·exact wKK
 refine wX ?_
 refine brd_dec (fun h1 => ?_) (fun h1 => ?_)
 ·obtain ⟨k, hki⟩ : ∃ k, l[i]? = some k := ⟨_, List.getElem?_eq_getElem (by omega)⟩
  obtain ⟨c, hci⟩ : ∃ c, s[i]? = some c := ⟨_, List.getElem?_eq_getElem (by omega)⟩
  obtain ⟨k1, k2, k3⟩ := h.get i c k hci hki
  have hsa := isT hk.nil hki
  have hkm := List.mem_of_getElem? hki
  refine wX ?_
  refine Nd.mk ⟨hsa, by omega, by omega⟩ ?_
  refine wX ?_
  refine LdN.agg (nodeC k) rfl (fun w hw => hw.1.2.1) rfl (fun j hj => by
   rw [Int.toNat_natCast]
   exact nodesC_get l i j hj hki) ?_
  refine wX ?_
  try refine Nd.mk ⟨by omega, by omega⟩ ?_
  refine wX ?_
  rw [Int.toNat_natCast, byteAt_get hci]
  rcases k3 with rfl | ⟨rfl, ho⟩
  ·refine wX ?_
   refine call1 (expr_c hx k1 (hk.k k hkm) k2 _ (fun w hw => ⟨hw.1.1, hw.1.2.2 k hkm⟩)) ?_
   refine wX ?_
   try refine Nd.mk ⟨by omega, by omega⟩ ?_
   refine wX ?_
   try rw [Int.toNat_natCast, byteAt_get hci]
   refine wX ?_
   refine ⟨i + 1, by show i + 1 ≤ _; omega, by show l.length - (i + 1) < l.length - i; omega, ?_, wHH⟩
   exact wKK
  ·refine wX ?_
   try refine Nd.mk ⟨by omega, by omega⟩ ?_
   refine wX ?_
   try rw [Int.toNat_natCast, byteAt_get hci]
   refine wX ?_
   refine call1 (seq_c hx k1 (hk.k k hkm) k2 ho _ (fun w hw => ⟨hw.1.1, hw.1.2.2 k hkm⟩)) ?_
   refine wX ?_
   refine ⟨i + 1, by show i + 1 ≤ _; omega, by show l.length - (i + 1) < l.length - i; omega, ?_, wHH⟩
   exact wKK
 ·exact wZ
end Go.Proofs.YtpikpjlhdkkigaaGreatDoor
namespace Go.AX
theorem ReadW.slc_hi {P : Program} {o : Oper} {s : List AV} {H : List Ent} {K : AV → Prop} {t : TypeId} {x z : Operand} {a : Option Addr} {n cap : Nat} {k : IntKind} {j : Int} (ho : o.op = .slice t x none (some z) none) (hu : slcB P t = true)
  (hx : opv s x = .c (.v (.slice a n cap))) (hz : opv s z = .c (.v (.int k j))) (hj : 0 ≤ j ∧ j ≤ (cap : Int)) (h : K (.c (.v (.slice a j.toNat cap)))) : ReadW P o s H K := by
 obtain ⟨e, inf, hu, hi⟩ := slcB_spec hu
 refine ReadW.val _ (fun cs b => by rw [ho]; simp) (by rw [ho]; simp [Op.operands, allPlain, hx, hz]) (fun w _ => ?_) h
 have e1 := plainEv_v hx
 have e2 := plainEv_v hz
 have : (Instr.sliceAt t (.slice a n cap) none (some (.int k j)) none).run P w = .ok (.slice a j.toNat cap) w := by
  have ha : a.map (·.add 0) = a := by
   cases a with
   | none => rfl
   | some b => rfl
  simp [Instr.sliceAt, Instr.slice, run_underlying hu, Instr.sliceBounds, Instr.sliceBound, asIntOf, hj, sizeOf, typeInfo, hi, ha]
 refine run_op_slice ho ?_
 rw [e1]
 simpa [e2] using this
def MapIs (κ : IntKind) (es : Array MapEntry) (R : Int → Option Value) : Prop := ∀ k : Int, ∃ i, Instr.findNow (.int κ) (.int κ k) es.toList 0 = some ((R k).map fun v => (i, v))
theorem find_snoc {κ : IntKind} {k k' : Int} {v : Value} {born : Nat} : ∀ (l : List MapEntry) (i : Nat), (∀ q, Instr.findNow (.int κ) (.int κ k) l i = some (some q) → Instr.findNow (.int κ) (.int κ k) (l ++ [{ key := .int κ k', val := v, born := born }]) i = some (some q)) ∧
  (Instr.findNow (.int κ) (.int κ k) l i = some none → Instr.findNow (.int κ) (.int κ k) (l ++ [{ key := .int κ k', val := v, born := born }]) i = some (if k = k' then some (i + l.length, v) else none))
 | [], i => by
  refine ⟨(fun q h => by cases h), fun _ => ?_⟩
  by_cases h : k = k'
  ·subst h
   simp [Instr.findNow, Instr.sameNow]
  ·have hb : (k == k') = false := by simp [h]
   simp [Instr.findNow, Instr.sameNow, hb, h]
 | e :: l, i => by
  obtain ⟨h1, h2⟩ := find_snoc (κ := κ) (k := k) (k' := k') (v := v) (born := born) l (i + 1)
  simp only [List.cons_append, Instr.findNow]
  cases hs : Instr.sameNow (.int κ) (.int κ k) e.key with
  | none => exact ⟨(fun q h => by cases h), (fun h => by cases h)⟩
  | some b =>
   cases b with
   | true => exact ⟨(fun q h => h), (fun h => by cases h)⟩
   | false =>
    refine ⟨fun q h => h1 q h, fun h => ?_⟩
    rw [h2 h]
    simp only [List.length_cons]
    rw [show i + 1 + l.length = i + (l.length + 1) by omega]
theorem MapIs.nil {κ : IntKind} : MapIs κ #[] fun _ => none := fun _ => ⟨0, rfl⟩
theorem MapIs.put {κ : IntKind} {es : Array MapEntry} {R : Int → Option Value} (h : MapIs κ es R) {k' : Int} (hk : R k' = none) (v : Value) (born : Nat) : MapIs κ (es.push { key := .int κ k', val := v, born := born }) fun k => if k = k' then some v else R k := by
 intro k
 obtain ⟨i, hi⟩ := h k
 have hs := find_snoc (κ := κ) (k := k) (k' := k') (v := v) (born := born) es.toList 0
 rw [Array.toList_push]
 by_cases he : k = k'
 ·subst he
  rw [hk] at hi
  refine ⟨0 + es.toList.length, ?_⟩
  rw [hs.2 hi]
  simp
 ·show ∃ i, _ = some (Option.map (fun v => (i, v)) (if k = k' then some v else R k))
  rw [if_neg he]
  cases hr : R k with
  | none =>
   rw [hr] at hi
   exact ⟨0, by rw [hs.2 hi, if_neg he]; rfl⟩
  | some x =>
   rw [hr] at hi
   exact ⟨i, by rw [hs.1 _ hi]; rfl⟩
theorem MapIs.congr {κ : IntKind} {es : Array MapEntry} {R R' : Int → Option Value} (h : MapIs κ es R) (e : ∀ k, R k = R' k) : MapIs κ es R' := fun k => by rw [← e k]; exact h k
theorem MapIs.none {κ : IntKind} {es : Array MapEntry} {R : Int → Option Value} (h : MapIs κ es R) {k : Int} (hk : R k = .none) : Instr.findNow (.int κ) (.int κ k) es.toList 0 = some .none := by
 obtain ⟨i, hi⟩ := h k
 rw [hi, hk]
 rfl
def pairV (p : Int × Int) : Value := .agg #[.int .i64 p.1, .int .i64 p.2]
structure PairT (P : Program) (kt it : TypeId) : Prop where
 k : P.underlying kt = some (.array 2 it)
 i : P.underlying it = some (.int .i64)
 s : ∃ inf, P.info? it = some inf ∧ inf.size = 1
section
variable {P : Program} {kt it : TypeId}
theorem PairT.part (h : PairT P kt it) (w : World) {xs : Array Value} {off : Nat} {v : Value} (hx : xs[off]? = some v) : (Go.part it xs off).run P w = .ok v w := by
 simp [Go.part, isAgg, run_underlying h.i, hx]
theorem PairT.int (h : PairT P kt it) (w : World) (n : Nat) (x y : Int) : (Op.equalIn (n + 1) it (.int .i64 x) (.int .i64 y)).run P w = .ok (x == y) w := by
 unfold Op.equalIn
 simp [run_underlying h.i]
theorem PairT.check (h : PairT P kt it) (w : World) (e : Bool) (p : Int × Int) : (Instr.checkKey e 10000 kt (pairV p)).run P w = .ok () w := by
 obtain ⟨inf, hi, hs⟩ := h.s
 obtain ⟨a, b⟩ := p
 have p1 : ∀ (x y : Int) (w : World), (Go.part it #[.int .i64 x, .int .i64 y] 0).run P w = .ok (.int .i64 x) w := fun x y w => h.part w rfl
 have p2 : ∀ (x y : Int) (w : World), (Go.part it #[.int .i64 x, .int .i64 y] 1).run P w = .ok (.int .i64 y) w := fun x y w => h.part w rfl
 have hc : ∀ x, (Instr.checkKey e 9999 it (.int .i64 x)).run P w = .ok () w := fun x => MapKept.run_checkKey (k := .int .i64 x) h.i (by simp [MapKept.IsKey]) e 9998
 have hso : (sizeOf it).run P w = .ok 1 w := by rw [← hs]; simp [sizeOf, typeInfo, hi, Result.andThen]
 show (Instr.checkKey e (9999 + 1) kt (.agg #[.int .i64 a, .int .i64 b])).run P w = _
 unfold Instr.checkKey
 simp only [Sem.run_bind, run_underlying h.k, Result.andThen_ok]
 simp only [Std.Legacy.Range.forIn_eq_forIn_range', Std.Legacy.Range.size, Nat.sub_zero, Nat.add_one_sub_one, Nat.div_one]
 rw [show List.range' 0 2 = [0, 1] from rfl]
 simp only [List.forIn_cons, List.forIn_nil, Sem.run_bind, hso, Result.andThen_ok, Nat.mul_one, p1, p2, hc, Sem.run_pure]
def PairsAre (es : List MapEntry) (R : List ((Int × Int) × Value)) : Prop := es.map (fun e => (e.key, e.val)) = R.map fun r => (pairV r.1, r.2)
theorem PairsAre.put {es : Array MapEntry} {R : List ((Int × Int) × Value)} (h : PairsAre es.toList R) (p : Int × Int) (v : Value) (born : Nat) : PairsAre (es.push { key := pairV p, val := v, born := born }).toList (R ++ [(p, v)]) := by
 unfold PairsAre at *
 rw [Array.toList_push, List.map_append, List.map_append, h]
 rfl
end
theorem ReadW.pair {P : Program} {o : Oper} {s : List AV} {H : List Ent} {K : AV → Prop} {T it : TypeId} {x y : Operand} {a b : Int} {inf : TypeInfo} (ho : o.op = .build T #[(0, x), (1, y)]) (hT : PairT P T it) (hi : P.info? T = some inf) (hz : inf.zero = some (.agg #[.int .i64 0, .int .i64 0]))
  (hx : opv s x = .c (.v (.int .i64 a))) (hy : opv s y = .c (.v (.int .i64 b))) (h : K (.c (.v (pairV (a, b))))) : ReadW P o s H K :=
 ReadW.val (pairV (a, b)) (fun cs b e => by rw [ho] at e; cases e) (by rw [ho]; show allPlain s [x, y] = true; simp [allPlain, hx, hy]) (fun w hw => by
  obtain ⟨i1, hi1, hs1⟩ := hT.s
  have hso : (sizeOf it).run P w = .ok 1 w := by rw [← hs1]; simp [sizeOf, typeInfo, hi1, Result.andThen]
  have hb : (Instr.build T #[(0, plainEv s x), (1, plainEv s y)]).run P w = .ok (pairV (a, b)) w := by
   rw [plainEv_v hx, plainEv_v hy]
   unfold Instr.build
   simp only [Sem.run_bind, run_zeroValue hi hz, run_underlying hT.k, Result.andThen_ok, hso]
   rfl
  unfold execOp
  simp [ho, hb, Result.andThen]) h
end Go.AX
namespace Go.AX
def seek {α : Type} [DecidableEq α] (k : α) : List (α × Value) → Nat → Option (Nat × Value)
 | [], _ => none
 | (q, v) :: R, i => if k = q then some (i, v) else seek k R (i + 1)
def upd {α : Type} [DecidableEq α] (k : α) (v : Value) : List (α × Value) → List (α × Value)
 | [] => [(k, v)]
 | (q, x) :: R => if k = q then (q, v) :: R else (q, x) :: upd k v R
theorem seek_look {α : Type} [DecidableEq α] (k : α) : ∀ (R : List (α × Value)) (i : Nat), (seek k R i).map Prod.snd = R.lookup k
 | [], _ => rfl
 | (q, v) :: R, i => by
  unfold seek
  rw [List.lookup_cons]
  by_cases h : k = q
  ·subst h
   rw [if_pos rfl, beq_self_eq_true]
   rfl
  ·rw [if_neg h, show (k == q) = false by simp [h]]
   exact seek_look k R (i + 1)
theorem look_upd {α : Type} [DecidableEq α] (k j : α) (v : Value) : ∀ R : List (α × Value), (upd k v R).lookup j = if j = k then some v else R.lookup j
 | [] => by
  unfold upd
  rw [List.lookup_cons]
  by_cases h : j = k
  ·subst h; simp
  ·rw [if_neg h, show (j == k) = false by simp [h]]
 | (q, x) :: R => by
  unfold upd
  have ih := look_upd k j v R
  by_cases h : k = q
  ·subst h
   rw [if_pos rfl, List.lookup_cons, List.lookup_cons]
   by_cases h2 : j = k
   ·subst h2; simp
   ·rw [if_neg h2, show (j == k) = false by simp [h2]]
  ·rw [if_neg h, List.lookup_cons, List.lookup_cons, ih]
   by_cases h2 : j = q
   ·subst h2
    rw [beq_self_eq_true]
    simp only
    rw [if_neg (fun e => h e.symm)]
   ·rw [show (j == q) = false by simp [h2]]
theorem seek_ge {α : Type} [DecidableEq α] (k : α) : ∀ (R : List (α × Value)) (i j : Nat) (v : Value), seek k R i = some (j, v) → i ≤ j
 | [], _, _, _, h => by cases h
 | (q, x) :: R, i, j, v, h => by
  unfold seek at h
  split at h
  ·cases h; exact Nat.le_refl _
  ·have := seek_ge k R (i + 1) j v h; omega
def KeysAre {α : Type} (enc : α → Value) (es : List MapEntry) (R : List (α × Value)) : Prop := es.map (fun e => (e.key, e.val)) = R.map fun r => (enc r.1, r.2)
section
variable {α : Type} [DecidableEq α] {enc : α → Value}
theorem KeysAre.put {k : α} {v : Value} {born : Nat} : ∀ {es : List MapEntry} {R : List (α × Value)} {i : Nat}, KeysAre enc es R → seek k R i = none → KeysAre enc (es ++ [{ key := enc k, val := v, born := born }]) (upd k v R)
 | [], [], _, _, _ => rfl
 | [], _ :: _, _, h, _ => by cases h
 | _ :: _, [], _, h, _ => by cases h
 | e :: es, (q, x) :: R, i, h, hs => by
  unfold KeysAre at h
  simp only [List.map_cons, List.cons.injEq] at h
  unfold seek at hs
  split at hs
  ·cases hs
  ·rename_i hk
   have ih := KeysAre.put (v := v) (born := born) (es := es) (R := R) h.2 hs
   unfold upd
   rw [if_neg hk]
   unfold KeysAre at ih ⊢
   rw [List.cons_append, List.map_cons, List.map_cons, ih, h.1]
theorem KeysAre.set {k : α} {v : Value} : ∀ {es : List MapEntry} {R : List (α × Value)} {i j : Nat} {x : Value}, KeysAre enc es R → seek k R i = some (i + j, x) → KeysAre enc (es.modify j fun e => { e with key := enc k, val := v }) (upd k v R) ∧ ∃ e, es[j]? = some e ∧ e.key = enc k
 | [], [], _, _, _, _, hs => by cases hs
 | [], _ :: _, _, _, _, h, _ => by cases h
 | _ :: _, [], _, _, _, h, _ => by cases h
 | e :: es, (q, y) :: R, i, j, x, h, hs => by
  unfold KeysAre at h
  simp only [List.map_cons, List.cons.injEq] at h
  unfold seek at hs
  unfold upd
  split at hs
  ·rename_i hk
   subst hk
   simp only [Option.some.injEq, Prod.mk.injEq] at hs
   obtain rfl : j = 0 := by omega
   rw [if_pos rfl]
   refine ⟨?_, e, rfl, congrArg Prod.fst h.1⟩
   unfold KeysAre
   show _ :: List.map _ es = _ :: _
   rw [h.2]
  ·rename_i hk
   have hge := seek_ge k R (i + 1) (i + j) x hs
   obtain ⟨j, rfl⟩ : ∃ j2, j = j2 + 1 := ⟨j - 1, by omega⟩
   obtain ⟨h1, e2, h2, h3⟩ := KeysAre.set (v := v) (es := es) (R := R) (i := i + 1) (j := j) (x := x) h.2 (by rw [hs]; congr 2; omega)
   rw [if_neg hk]
   refine ⟨?_, e2, h2, h3⟩
   unfold KeysAre at h1 ⊢
   rw [show List.modify (e :: es) (j + 1) (fun e => { e with key := enc k, val := v }) = e :: List.modify es j (fun e => { e with key := enc k, val := v }) from rfl, List.map_cons, List.map_cons, h1, h.1]
end
structure KeyT (P : Program) (kt : TypeId) {α : Type} [DecidableEq α] (enc : α → Value) : Prop where
 check : ∀ (w : World) (e : Bool) (k : α), (Instr.checkKey e 10000 kt (enc k)).run P w = .ok () w
 find : ∀ (w : World) (k : α) (es : List MapEntry) (R : List (α × Value)), KeysAre enc es R → (Instr.findKey kt (enc k) es).run P w = .ok (seek k R 0) w
 stay : ∀ (w : World) (k : α), (Instr.keyThatStays (enc k) (enc k)).run P w = .ok (enc k) w
section
variable {P : Program} {o : Oper} {s : List AV} {H : List Ent} {t kt et : TypeId} {m k : Operand} {b c : Nat} {es : Array MapEntry} {α : Type} [DecidableEq α] {enc : α → Value} {p : α}
theorem ReadW.keyMap {K : AV → Prop} {inf : TypeInfo} {z : Value} (R : List (α × Value)) (ho : o.op = .lookup t m k false) (ht : P.underlying t = some (.map kt et)) (hkt : KeyT P kt enc) (hi : P.info? et = some inf) (hz : inf.zero = some z)
  (hm : opv s m = .c (.v (.map (some b)))) (hk : opv s k = .c (.v (enc p))) (hF : ∀ w, Facts H w → w.heap[b]? = some (.map es c)) (hf : KeysAre enc es.toList R) (h : K (.c (.v ((R.lookup p).getD z)))) : ReadW P o s H K :=
 ReadW.val ((R.lookup p).getD z) (fun cs b e => by rw [ho] at e; cases e) (by rw [ho]; show allPlain s [m, k] = true; simp [allPlain, hm, hk]) (fun w hw => by
  have hb := hF w hw
  have hc := hkt.check w es.isEmpty p
  have hj := hkt.find w p es.toList R hf
  have hlk := seek_look p R 0
  have hrun : (Instr.lookup t (.map (some b)) (enc p) false).run P w = .ok ((R.lookup p).getD z) w := by
   cases hr : seek p R 0 with
   | none => rw [hr] at hj hlk; rw [← hlk]; simp [Instr.lookup, run_underlying ht, MapKept.run_getObj_map hb, hc, hj, Result.andThen, run_zeroValue hi hz]
   | some q => rw [hr] at hj hlk; rw [← hlk]; simp [Instr.lookup, run_underlying ht, MapKept.run_getObj_map hb, hc, hj, Result.andThen]
  unfold execOp
  simp only [ho, plainEv_v hm, plainEv_v hk, Sem.run_bind, hrun, Result.andThen_ok, Sem.run_pure]) h
theorem EffW.setMap {K : AV → List Ent → Prop} {x : Operand} {val : Value} (i : Nat) (R : List (α × Value)) (ho : o.op = .mapUpdate t m k x) (ht : P.underlying t = some (.map kt et)) (hkt : KeyT P kt enc)
  (hm : opv s m = .c (.v (.map (some b)))) (hk : opv s k = .c (.v (enc p))) (hx : opv s x = .c (.v val)) (hi : nthE H i = some (.mp b es c)) (hf : KeysAre enc es.toList R)
  (next : ∀ es' c', KeysAre enc es'.toList (upd p val R) → setEK H i (.mp b es' c') fun H' => K (.c .any) H') : EffW P o s H K := by
 rw [nthE_eq] at hi
 obtain ⟨es', c', hnew, hrun⟩ : ∃ es' c', KeysAre enc es'.toList (upd p val R) ∧ ∀ w : World, w.heap[b]? = some (.map es c) → (Instr.mapUpdate t (.map (some b)) (enc p) val).run P w = .ok () { w with heap := w.heap.setIfInBounds b (.map es' c') } := by
  cases hr : seek p R 0 with
  | none =>
   refine ⟨es.push { key := enc p, val := val, born := c }, c + 1, by rw [Array.toList_push]; exact hf.put hr, fun w hb => ?_⟩
   have hj := hkt.find w p es.toList R hf
   rw [hr] at hj
   simp [Instr.mapUpdate, run_underlying ht, MapKept.run_getObj_map hb, hkt.check w false p, hj, MapKept.run_setObj_map _ hb, Result.andThen]
  | some q =>
   obtain ⟨j, v0⟩ := q
   obtain ⟨h1, e, h2, h3⟩ := hf.set (v := val) (i := 0) (j := j) (x := v0) (by rw [Nat.zero_add]; exact hr)
   refine ⟨es.modify j fun e => { e with key := enc p, val := val }, c, by rw [Array.toList_modify]; exact h1, fun w hb => ?_⟩
   have hj := hkt.find w p es.toList R hf
   rw [hr] at hj
   have h2' : es[j]? = some e := by rw [← h2]; simp
   have hst : (Instr.keyThatStays (((es[j]?).map (·.key)).getD (enc p)) (enc p)).run P w = .ok (enc p) w := by
    rw [h2']
    show (Instr.keyThatStays e.key (enc p)).run P w = _
    rw [h3]
    exact hkt.stay w p
   simp only [Instr.mapUpdate, Sem.run_bind, run_underlying ht, Result.andThen_ok, MapKept.run_getObj_map hb, hkt.check w false p, hj, hst, MapKept.run_setObj_map _ hb]
 obtain ⟨_, hk2⟩ := setEK_spec (next es' c' hnew)
 refine Effs.w (fun ρ S w a hs hr => ?_) hk2
 have h1 : a.eval m = .map (some b) := by have := opv_rel hr m; rw [hm] at this; exact this
 have h2 : a.eval k = enc p := by have := opv_rel hr k; rw [hk] at this; exact this
 have h3 : a.eval x = val := by have := opv_rel hr x; rw [hx] at this; exact this
 have hb : w.heap[b]? = some (.map es c) := hs.ent i _ hi
 have hbl : b < w.heap.size := (Array.getElem?_eq_some_iff.1 hb).1
 have hS := hs.setG (e' := .mp b es' c') (c := b) (w' := { w with heap := w.heap.setIfInBounds b (.map es' c') }) hi rfl (by simp) (fun j _ hne => by simp [Ne.symm hne]) rfl rfl rfl (fun _ hc => .inl (Option.some.inj hc).symm) (by show (w.heap.setIfInBounds b _)[b]? = _; simp [hbl])
 refine ⟨.skip, undef, ρ, _, ?_, .inr ⟨rfl, rfl⟩, hS.1, hS.2, trivial⟩
 unfold execOp
 simp only [ho, h1, h2, h3, Sem.run_bind, Sem.run_pure, hrun w hb, Result.andThen_ok]
end
end Go.AX
namespace Go.AX
theorem bs_inj2 {a b : List UInt8} (h : bs a = bs b) : a = b := by
 have := congrArg (fun x : ByteArray => x.data.toList) h
 simpa [bs] using this
theorem bs_beq (a b : List UInt8) : (bs a == bs b) = decide (a = b) := by
 rw [Bool.eq_iff_iff, MapKept.bytes_beq, decide_eq_true_eq]
 exact ⟨bs_inj2, fun h => by rw [h]⟩
theorem findNow_seekS (k : List UInt8) : ∀ (es : List MapEntry) (R : List (List UInt8 × Value)) (i : Nat), KeysAre (fun k => .string (bs k)) es R → Instr.findNow .string (.string (bs k)) es i = some (seek k R i)
 | [], [], _, _ => rfl
 | [], _ :: _, _, h => by cases h
 | _ :: _, [], _, h => by cases h
 | e :: es, (q, x) :: R, i, h => by
  unfold KeysAre at h
  simp only [List.map_cons, List.cons.injEq, Prod.mk.injEq] at h
  have ih := findNow_seekS k es R (i + 1) h.2
  unfold seek
  rw [Instr.findNow, h.1.1]
  have hb := bs_beq k q
  by_cases hk : k = q
  ·subst hk
   rw [decide_eq_true rfl] at hb
   simp [Instr.sameNow, h.1.2, hb]
  ·rw [decide_eq_false hk] at hb
   simp [Instr.sameNow, hb, hk, ih]
theorem strKeyT {P : Program} {kt : TypeId} (h : P.underlying kt = some .string) : KeyT P kt (fun k : List UInt8 => .string (bs k)) where
 check := fun w e k => MapKept.run_checkKey (k := .string (bs k)) h (by simp [MapKept.IsKey]) e 9999
 find := fun w k es R hr => MapKept.run_findKey h (findNow_seekS k es R 0 hr)
 stay := fun w k => MapKept.run_keyThatStays (d := .string) (k := .string (bs k)) (by simp [MapKept.IsKey])
section
variable {P : Program} {o : Oper} {s : List AV} {H : List Ent} {t kt et : TypeId} {m k : Operand} {b c : Nat} {es : Array MapEntry} {α : Type} [DecidableEq α] {enc : α → Value} {p : α}
end
theorem KeysAre.len {α : Type} {enc : α → Value} {es : List MapEntry} {R : List (α × Value)} (h : KeysAre enc es R) : es.length = R.length := by
 have := congrArg List.length h
 simpa using this
end Go.AX
namespace Go.Proofs.YtpikpjlhdkkigaaGreatDoor
open Go.AX Go.RowKit Go.Tree Go.Scan
set_option maxRecDepth 20000
abbrev encS : List UInt8 → Value := fun k => .string (bs k)
abbrev lkS (R : List (List UInt8 × Value)) (x : List UInt8) : Option Value := @List.lookup (List UInt8) Value instBEqOfDecidableEq x R
theorem upd_names {R : List (List UInt8 × Value)} {x y : List UInt8} {v z : Value} {us : List (List UInt8)} (h : lkS (upd x z R) y = some v) (hus : ∀ x v, lkS R x = some v → x ∈ us) : y ∈ x :: us := by
 by_cases he : y = x
 ·rw [he]; simp
 ·rw [show lkS (upd x z R) y = if y = x then some z else lkS R y from look_upd x y z R, if_neg he] at h
  exact List.mem_cons_of_mem _ (hus y v h)
structure PaS where
 i : Nat
 es : Array MapEntry
 c : Nat
 R : List (List UInt8 × Value)
 us : List (List UInt8)
 kind : Int
theorem drop_cons {α : Type} {l : List α} {i : Nat} {x : α} (h : l[i]? = some x) : l.drop i = x :: l.drop (i + 1) := by
 obtain ⟨h1, h2⟩ := List.getElem?_eq_some_iff.1 h
 rw [List.drop_eq_getElem_cons h1, h2]
set_option maxHeartbeats 4000000 in
theorem params_c {N : Nat} (hx : Hx N) {l : List TP} (hl : Sm N .par l) (hp : parOk 0 [] l) : YesL 87 l := fun a cap hk => by
 refine factC hm Tryz.func87 (by kernel_rfl) rfl rfl ?_
 have hll := hk.len
 refine wX ?_
 refine EffW.mkMap rfl fun b => ?_
 refine wX ?_
 refine LoopN.intro PaS (fun ⟨i, es, _, R, us, kind⟩ => i ≤ l.length ∧ parOk kind us (l.drop i) ∧ KeysAre encS es.toList R ∧ (∀ x v, lkS R x = some v → x ∈ us) ∧ 0 ≤ kind)
  (fun ⟨i, _, _, _, _, kind⟩ => mkS Tryz.f87.ntmps 0 [(0, .c (.v (.slice a l.length cap))), (2, .c (.v (.bool false))), (3, .c (.v (.map (some b)))), (4, .c (.v (.int .i64 kind))), (8, .c (.v (.slice a l.length cap))), (9, .c (.v (.int .i64 (l.length : Int)))), (10, .c (.v (.int .i64 (i : Int))))])
  (fun ⟨_, es, c, _, _, _⟩ => [.fact (fun w => ScanF w ∧ LsF a l w), .mp b es c]) (fun ⟨i, _, _, _, _, _⟩ => l.length - i) [] rfl (fun _ => rfl) (fun _ => rfl) (fun _ _ => okHB_eq rfl)
  ⟨⟨0, #[], 0, [], [], 0⟩, ⟨Nat.zero_le _, hp, by trivial, (fun x v h => by cases h), Int.le_refl _⟩, ?_, wkH_refl _⟩ ?_
 ·exact wKK
 rintro ⟨i, es, c, R, us, kind⟩ ⟨hi, hpo, hR, hus, hk0⟩
 refine wX ?_
 refine brd_dec (fun h1 => ?_) (fun h1 => ?_)
 ·obtain ⟨p, hpi⟩ : ∃ p, l[i]? = some p := ⟨_, List.getElem?_eq_getElem (by omega)⟩
  have hsa := isT hk.nil hpi
  have hpm := List.mem_of_getElem? hpi
  have hpk := hk.k p hpm
  obtain ⟨hps, hpv⟩ := hl p hpm
  rw [drop_cons hpi] at hpo
  obtain ⟨p1, p2, p3, p4, p5⟩ := hpo
  refine wX ?_
  refine Nd.mk ⟨hsa, by omega, by omega⟩ ?_
  refine wX ?_
  cases hpv with
  | par0 =>
   rename_i a' c'
   refine LdN.agg ([.int .i64 54, .string (bs []), .int .i64 2, .slice a' 0 c']) rfl (fun w hw => hw.1.2.1) rfl (fun j hj => by
    rw [Int.toNat_natCast]
    exact nodesC_get l i j hj hpi) ?_
   refine wX ?_
   simp only at p1 p2 p3 p5
   refine brd_dec (fun h => by omega) (fun _ => ?_)
   refine wX ?_
   refine brd_eq (fun h => by omega) (fun _ => ?_)
   refine wX ?_
   refine ⟨⟨i + 1, es, c, R, us, 2⟩, ⟨by omega, by simpa using p5, hR, hus, by decide⟩, by show l.length - (i + 1) < l.length - i; omega, ?_, ⟨wkE_refl _, wkE_refl _, wkH_nil _⟩⟩
   exact wKK
  | parn h hn =>
   rename_i x n a' c'
   have hne := lo_ne h
   simp only at p1 p2 p3 p4 p5
   rw [if_neg hne] at p5
   have hxl : x.length ≤ 1048576 := hpk.str
   have hnone : lkS R x = none := by
    cases hq : lkS R x with
    | none => rfl
    | some v => exact absurd (hus x v hq) p4
   rcases hn with rfl | rfl | rfl
   ·refine LdN.agg ([.int .i64 54, .string (bs x), .int .i64 0, .slice a' 0 c']) rfl (fun w hw => hw.1.2.1) rfl (fun j hj => by
     rw [Int.toNat_natCast]
     exact nodesC_get l i j hj hpi) ?_
    refine wX ?_
    refine brd_dec (fun h => by omega) (fun _ => ?_)
    refine wX ?_
    refine brd_eq (fun e => ?_) (fun e => ?_)
    ·refine wX ?_
     refine brd_dec (fun h => by omega) (fun _ => ?_)
     refine wX ?_
     refine brd_intro (fun h2 => absurd (eq_of_beq (show (x == []) = true from h2)) hne) (fun _ => ?_)
     refine wX ?_
     refine call1 (isLocal_c x hxl h _ (fun w hw => hw.1.1)) ?_
     refine wX ?_
     refine ReadW.keyMap (enc := encS) (p := x) (kt := 9) (et := 4) R rfl Tryz.underlying117 (strKeyT Tryz.underlying9) rfl rfl rfl rfl (fun w hw => hw.2.1) hR ?_
     rw [show @List.lookup (List UInt8) Value instBEqOfDecidableEq x R = none from hnone]
     refine wX ?_
     refine call1 (exprs_c hx (l := []) (fun k hk => by cases hk) a' c' hpk.ls _ (fun w hw => ⟨hw.1.1, (hw.1.2.2 _ hpm).ls⟩)) ?_
     refine wX ?_
     refine EffW.setMap (enc := encS) (p := x) (kt := 9) (et := 4) 1 R rfl Tryz.underlying117 (strKeyT Tryz.underlying9) rfl rfl rfl rfl hR fun es' c'' hR' => ?_
     refine wX ?_
     refine ⟨⟨i + 1, es', c'', upd x (.bool true) R, x :: us, 0⟩, ⟨by omega, p5, hR', fun y v hy => ?_, by decide⟩, by show l.length - (i + 1) < l.length - i; omega, ?_, ⟨wkE_refl _, wkE_refl _, wkH_nil _⟩⟩
     ·exact upd_names hy hus
     ·exact wKK
    ·-- a name; []: the kids, 0: the number, fun k hk => by cases hk: the kids are valid
     refine wX ?_
     refine brd_intro (fun h2 => absurd (eq_of_beq (show (x == []) = true from h2)) hne) (fun _ => ?_)
     refine wX ?_
     refine call1 (isLocal_c x hxl h _ (fun w hw => hw.1.1)) ?_
     refine wX ?_
     refine ReadW.keyMap (enc := encS) (p := x) (kt := 9) (et := 4) R rfl Tryz.underlying117 (strKeyT Tryz.underlying9) rfl rfl rfl rfl (fun w hw => hw.2.1) hR ?_
     rw [show @List.lookup (List UInt8) Value instBEqOfDecidableEq x R = none from hnone]
     refine wX ?_
     refine call1 (exprs_c hx (l := []) (fun k hk => by cases hk) a' c' hpk.ls _ (fun w hw => ⟨hw.1.1, (hw.1.2.2 _ hpm).ls⟩)) ?_
     refine wX ?_
     refine EffW.setMap (enc := encS) (p := x) (kt := 9) (et := 4) 1 R rfl Tryz.underlying117 (strKeyT Tryz.underlying9) rfl rfl rfl rfl hR fun es' c'' hR' => ?_
     refine wX ?_
     refine ⟨⟨i + 1, es', c'', upd x (.bool true) R, x :: us, 0⟩, ⟨by omega, p5, hR', fun y v hy => ?_, by decide⟩, by show l.length - (i + 1) < l.length - i; omega, ?_, ⟨wkE_refl _, wkE_refl _, wkH_nil _⟩⟩
     ·exact upd_names hy hus
     ·exact wKK
   ·refine LdN.agg ([.int .i64 54, .string (bs x), .int .i64 2, .slice a' 0 c']) rfl (fun w hw => hw.1.2.1) rfl (fun j hj => by
     rw [Int.toNat_natCast]
     exact nodesC_get l i j hj hpi) ?_
    refine wX ?_
    refine brd_dec (fun h => by omega) (fun _ => ?_)
    refine wX ?_
    refine brd_eq (fun e => ?_) (fun e => ?_)
    ·refine wX ?_
     refine brd_dec (fun h => by omega) (fun _ => ?_)
     refine wX ?_
     refine brd_intro (fun h2 => absurd (eq_of_beq (show (x == []) = true from h2)) hne) (fun _ => ?_)
     refine wX ?_
     refine call1 (isLocal_c x hxl h _ (fun w hw => hw.1.1)) ?_
     refine wX ?_
     refine ReadW.keyMap (enc := encS) (p := x) (kt := 9) (et := 4) R rfl Tryz.underlying117 (strKeyT Tryz.underlying9) rfl rfl rfl rfl (fun w hw => hw.2.1) hR ?_
     rw [show @List.lookup (List UInt8) Value instBEqOfDecidableEq x R = none from hnone]
     refine wX ?_
     refine call1 (exprs_c hx (l := []) (fun k hk => by cases hk) a' c' hpk.ls _ (fun w hw => ⟨hw.1.1, (hw.1.2.2 _ hpm).ls⟩)) ?_
     refine wX ?_
     refine EffW.setMap (enc := encS) (p := x) (kt := 9) (et := 4) 1 R rfl Tryz.underlying117 (strKeyT Tryz.underlying9) rfl rfl rfl rfl hR fun es' c'' hR' => ?_
     refine wX ?_
     refine ⟨⟨i + 1, es', c'', upd x (.bool true) R, x :: us, 2⟩, ⟨by omega, p5, hR', fun y v hy => ?_, by decide⟩, by show l.length - (i + 1) < l.length - i; omega, ?_, ⟨wkE_refl _, wkE_refl _, wkH_nil _⟩⟩
     ·exact upd_names hy hus
     ·exact wKK
    ·-- a name; []: the kids, 2: the number, fun k hk => by cases hk: the kids are valid
     refine wX ?_
     refine brd_intro (fun h2 => absurd (eq_of_beq (show (x == []) = true from h2)) hne) (fun _ => ?_)
     refine wX ?_
     refine call1 (isLocal_c x hxl h _ (fun w hw => hw.1.1)) ?_
     refine wX ?_
     refine ReadW.keyMap (enc := encS) (p := x) (kt := 9) (et := 4) R rfl Tryz.underlying117 (strKeyT Tryz.underlying9) rfl rfl rfl rfl (fun w hw => hw.2.1) hR ?_
     rw [show @List.lookup (List UInt8) Value instBEqOfDecidableEq x R = none from hnone]
     refine wX ?_
     refine call1 (exprs_c hx (l := []) (fun k hk => by cases hk) a' c' hpk.ls _ (fun w hw => ⟨hw.1.1, (hw.1.2.2 _ hpm).ls⟩)) ?_
     refine wX ?_
     refine EffW.setMap (enc := encS) (p := x) (kt := 9) (et := 4) 1 R rfl Tryz.underlying117 (strKeyT Tryz.underlying9) rfl rfl rfl rfl hR fun es' c'' hR' => ?_
     refine wX ?_
     refine ⟨⟨i + 1, es', c'', upd x (.bool true) R, x :: us, 2⟩, ⟨by omega, p5, hR', fun y v hy => ?_, by decide⟩, by show l.length - (i + 1) < l.length - i; omega, ?_, ⟨wkE_refl _, wkE_refl _, wkH_nil _⟩⟩
     ·exact upd_names hy hus
     ·exact wKK
   ·refine LdN.agg ([.int .i64 54, .string (bs x), .int .i64 3, .slice a' 0 c']) rfl (fun w hw => hw.1.2.1) rfl (fun j hj => by
     rw [Int.toNat_natCast]
     exact nodesC_get l i j hj hpi) ?_
    refine wX ?_
    refine brd_dec (fun h => by omega) (fun _ => ?_)
    refine wX ?_
    refine brd_eq (fun e => ?_) (fun e => ?_)
    ·refine wX ?_
     refine brd_dec (fun h => by omega) (fun _ => ?_)
     refine wX ?_
     refine brd_intro (fun h2 => absurd (eq_of_beq (show (x == []) = true from h2)) hne) (fun _ => ?_)
     refine wX ?_
     refine call1 (isLocal_c x hxl h _ (fun w hw => hw.1.1)) ?_
     refine wX ?_
     refine ReadW.keyMap (enc := encS) (p := x) (kt := 9) (et := 4) R rfl Tryz.underlying117 (strKeyT Tryz.underlying9) rfl rfl rfl rfl (fun w hw => hw.2.1) hR ?_
     rw [show @List.lookup (List UInt8) Value instBEqOfDecidableEq x R = none from hnone]
     refine wX ?_
     refine call1 (exprs_c hx (l := []) (fun k hk => by cases hk) a' c' hpk.ls _ (fun w hw => ⟨hw.1.1, (hw.1.2.2 _ hpm).ls⟩)) ?_
     refine wX ?_
     refine EffW.setMap (enc := encS) (p := x) (kt := 9) (et := 4) 1 R rfl Tryz.underlying117 (strKeyT Tryz.underlying9) rfl rfl rfl rfl hR fun es' c'' hR' => ?_
     refine wX ?_
     refine ⟨⟨i + 1, es', c'', upd x (.bool true) R, x :: us, 3⟩, ⟨by omega, p5, hR', fun y v hy => ?_, by decide⟩, by show l.length - (i + 1) < l.length - i; omega, ?_, ⟨wkE_refl _, wkE_refl _, wkH_nil _⟩⟩
     ·exact upd_names hy hus
     ·exact wKK
    ·-- a name; []: the kids, 3: the number, fun k hk => by cases hk: the kids are valid
     refine wX ?_
     refine brd_intro (fun h2 => absurd (eq_of_beq (show (x == []) = true from h2)) hne) (fun _ => ?_)
     refine wX ?_
     refine call1 (isLocal_c x hxl h _ (fun w hw => hw.1.1)) ?_
     refine wX ?_
     refine ReadW.keyMap (enc := encS) (p := x) (kt := 9) (et := 4) R rfl Tryz.underlying117 (strKeyT Tryz.underlying9) rfl rfl rfl rfl (fun w hw => hw.2.1) hR ?_
     rw [show @List.lookup (List UInt8) Value instBEqOfDecidableEq x R = none from hnone]
     refine wX ?_
     refine call1 (exprs_c hx (l := []) (fun k hk => by cases hk) a' c' hpk.ls _ (fun w hw => ⟨hw.1.1, (hw.1.2.2 _ hpm).ls⟩)) ?_
     refine wX ?_
     refine EffW.setMap (enc := encS) (p := x) (kt := 9) (et := 4) 1 R rfl Tryz.underlying117 (strKeyT Tryz.underlying9) rfl rfl rfl rfl hR fun es' c'' hR' => ?_
     refine wX ?_
     refine ⟨⟨i + 1, es', c'', upd x (.bool true) R, x :: us, 3⟩, ⟨by omega, p5, hR', fun y v hy => ?_, by decide⟩, by show l.length - (i + 1) < l.length - i; omega, ?_, ⟨wkE_refl _, wkE_refl _, wkH_nil _⟩⟩
     ·exact upd_names hy hus
     ·exact wKK
  | par1 h hkk =>
   rename_i x a' c' k
   have hne := lo_ne h
   simp only at p1 p2 p3 p4 p5
   rw [if_neg hne] at p5
   have hxl : x.length ≤ 1048576 := hpk.str
   have hnone : lkS R x = none := by
    cases hq : lkS R x with
    | none => rfl
    | some v => exact absurd (hus x v hq) p4
   have hks : Sm N .ex [k] := fun q hq => by
    rw [List.mem_singleton.1 hq]
    have := sz_kid (t := (⟨54, x, 1, a', [k], c'⟩ : TP)) (k := k) (List.mem_singleton.2 rfl)
    exact ⟨by omega, hkk⟩
   refine LdN.agg ([.int .i64 54, .string (bs x), .int .i64 1, .slice a' 1 c']) rfl (fun w hw => hw.1.2.1) rfl (fun j hj => by
    rw [Int.toNat_natCast]
    exact nodesC_get l i j hj hpi) ?_
   refine wX ?_
   refine brd_dec (fun h => by omega) (fun _ => ?_)
   refine wX ?_
   refine brd_eq (fun e => ?_) (fun e => ?_)
   ·refine wX ?_
    refine brd_dec (fun h => by omega) (fun _ => ?_)
    refine wX ?_
    refine brd_intro (fun h2 => absurd (eq_of_beq (show (x == []) = true from h2)) hne) (fun _ => ?_)
    refine wX ?_
    refine call1 (isLocal_c x hxl h _ (fun w hw => hw.1.1)) ?_
    refine wX ?_
    refine ReadW.keyMap (enc := encS) (p := x) (kt := 9) (et := 4) R rfl Tryz.underlying117 (strKeyT Tryz.underlying9) rfl rfl rfl rfl (fun w hw => hw.2.1) hR ?_
    rw [show @List.lookup (List UInt8) Value instBEqOfDecidableEq x R = none from hnone]
    refine wX ?_
    refine call1 (exprs_c hx (l := [k]) (hks) a' c' hpk.ls _ (fun w hw => ⟨hw.1.1, (hw.1.2.2 _ hpm).ls⟩)) ?_
    refine wX ?_
    refine EffW.setMap (enc := encS) (p := x) (kt := 9) (et := 4) 1 R rfl Tryz.underlying117 (strKeyT Tryz.underlying9) rfl rfl rfl rfl hR fun es' c'' hR' => ?_
    refine wX ?_
    refine ⟨⟨i + 1, es', c'', upd x (.bool true) R, x :: us, 1⟩, ⟨by omega, p5, hR', fun y v hy => ?_, by decide⟩, by show l.length - (i + 1) < l.length - i; omega, ?_, ⟨wkE_refl _, wkE_refl _, wkH_nil _⟩⟩
    ·exact upd_names hy hus
    ·exact wKK
   ·-- a name; [k]: the kids, 1: the number, hks: the kids are valid
    refine wX ?_
    refine brd_intro (fun h2 => absurd (eq_of_beq (show (x == []) = true from h2)) hne) (fun _ => ?_)
    refine wX ?_
    refine call1 (isLocal_c x hxl h _ (fun w hw => hw.1.1)) ?_
    refine wX ?_
    refine ReadW.keyMap (enc := encS) (p := x) (kt := 9) (et := 4) R rfl Tryz.underlying117 (strKeyT Tryz.underlying9) rfl rfl rfl rfl (fun w hw => hw.2.1) hR ?_
    rw [show @List.lookup (List UInt8) Value instBEqOfDecidableEq x R = none from hnone]
    refine wX ?_
    refine call1 (exprs_c hx (l := [k]) (hks) a' c' hpk.ls _ (fun w hw => ⟨hw.1.1, (hw.1.2.2 _ hpm).ls⟩)) ?_
    refine wX ?_
    refine EffW.setMap (enc := encS) (p := x) (kt := 9) (et := 4) 1 R rfl Tryz.underlying117 (strKeyT Tryz.underlying9) rfl rfl rfl rfl hR fun es' c'' hR' => ?_
    refine wX ?_
    refine ⟨⟨i + 1, es', c'', upd x (.bool true) R, x :: us, 1⟩, ⟨by omega, p5, hR', fun y v hy => ?_, by decide⟩, by show l.length - (i + 1) < l.length - i; omega, ?_, ⟨wkE_refl _, wkE_refl _, wkH_nil _⟩⟩
    ·exact upd_names hy hus
    ·exact wKK
 ·exact wZ
set_option maxHeartbeats 4000000 in
theorem body_c {N : Nat} (hx : Hx N) {l : List TP} {s : TP} (hl : Sm N .par l) (hp : parOk 0 [] l) (hs : s.sz < N) (hv : V .ex s) (ho : s.op = 26) : YesL 66 (l ++ [s]) := fun a cap hk => by
 refine factC hm Tryz.func66 (by kernel_rfl) rfl rfl ?_
 have hll := hk.len
 have hlen : (l ++ [s]).length = l.length + 1 := by simp
 have hsk : TreeK s := hk.k s (by simp)
 have hsa : a.isSome = true := isT (i := l.length) (x := s) hk.nil (by simp)
 rw [hlen] at hll ⊢
 have hw1 : IntKind.i64.wrap (((l.length + 1 : Nat) : Int) - 1) = ((l.length : Nat) : Int) := by rw [wrap_i64 (by omega)]; omega
 have hd : decide (((l.length + 1 : Nat) : Int) > 0) = true := by rw [decide_eq_true_iff]; omega
 have hlk : LsK a cap l := by have := hk.take l.length; rwa [List.take_left] at this
 refine wX ?_
 rw [hd]
 refine wX ?_
 rw [hw1]
 refine Nd.mk ⟨hsa, by omega, by omega⟩ ?_
 refine wX ?_
 refine LdN.agg (nodeC s) rfl (fun w hw => hw.1.2.1) rfl (fun j hj => by
  rw [Int.toNat_natCast]
  exact nodesC_get (l ++ [s]) l.length j hj (by simp)) ?_
 refine wX ?_
 refine call1 (seq_c hx hs hsk hv ho _ (fun w hw => ⟨hw.1.1, hw.1.2.2 s (by simp)⟩)) ?_
 refine wX ?_
 have hcap := hk.cap
 rw [hlen] at hcap
 refine ReadW.slc_hi rfl (by kernel_rfl) rfl rfl (by omega) ?_
 rw [hw1, Int.toNat_natCast]
 refine wX ?_
 refine call1 (params_c hx hl hp a cap hlk _ (fun w hw => ⟨hw.1.1, by have := hw.1.2.take l.length; rwa [List.take_left] at this⟩)) ?_
 exact wZ
end Go.Proofs.YtpikpjlhdkkigaaGreatDoor
namespace Go.Proofs.YtpikpjlhdkkigaaGreatDoor
open Go.AX Go.RowKit Go.Tree Go.Scan
set_option maxRecDepth 20000
theorem sz_one {o n : Int} {x : List UInt8} {a : Option Addr} {k : TP} {c N : Nat} (h : (⟨o, x, n, a, [k], c⟩ : TP).sz < N) : k.sz < N := by
 have := sz_kid (t := (⟨o, x, n, a, [k], c⟩ : TP)) (k := k) (List.mem_singleton.2 rfl)
 omega
theorem Expr22_c : ∀ H, SpecH Tryz.prog 113 (pvs [.int .i64 22]) H (Ret (.bool false) H) := by
 refine pureC hm Tryz.func113 (by kernel_rfl) rfl rfl ?_
 exact wZ
theorem expr22_c (x n : Value) (y : Value) : ∀ H, SpecH Tryz.prog 79 (pvs [.agg #[.int .i64 22, x, n, y]]) H (Ret (.bool false) H) := by
 refine pureC hm Tryz.func79 (by kernel_rfl) rfl rfl ?_
 refine wX ?_
 refine call1 (Expr22_c _) ?_
 exact wZ
theorem argsn_c {n : Nat} (hx : Hx n) {t : TP} (ht : t.sz < n) (hk : TreeK t) (hv : V .arg t) : ∀ H, (∀ w, Facts H w → ScanF w ∧ TreeF w t ∧ True) → SpecH Tryz.prog 136 (pvs [nodeV t] ++ pvs (#[] : Array Value).toList) H (Ret (.bool false) H) := by
 rcases arg_cases hv with hv | ⟨a, c, k, hkv, rfl⟩
 ·refine factC (xs := [nodeV t]) hm Tryz.func136 (by kernel_rfl) rfl rfl ?_
  refine wX ?_
  refine call1 (expr_c hx ht hk hv _ (fun w hw => ⟨hw.1.1, hw.1.2.1⟩)) ?_
  exact wZ
 ·refine factC (xs := [.agg #[.int .i64 22, .string (bs []), .int .i64 0, .slice a 1 c]]) hm Tryz.func136 (by kernel_rfl) rfl rfl ?_
  have hsa : a.isSome = true := kid_some (i := 0) hk rfl
  refine wX ?_
  refine call1 (expr22_c _ _ _ _) ?_
  refine wX ?_
  refine call1 (unnamed_c (⟨22, [], 0, a, [k], c⟩ : TP) rfl rfl _) ?_
  refine wX ?_
  refine Nd.mk ⟨hsa, by decide, by decide⟩ ?_
  refine wX ?_
  refine LdN.agg (a := a) (q := 0) (nodeC k) rfl (fun w hw => hw.1.2.1.row) rfl (fun j hj => nodesC_get [k] 0 j hj rfl) ?_
  refine wX ?_
  refine call1 (expr_c hx (sz_one ht) (hk.kid (List.mem_singleton.2 rfl)) hkv _ (fun w hw => ⟨hw.1.1, hw.1.2.1.kid (List.mem_singleton.2 rfl)⟩)) ?_
  refine wX ?_
  rfl
set_option maxHeartbeats 4000000 in
theorem args_c {n : Nat} (hx : Hx n) {l : List TP} (hl : Sm n .arg l) : YesL 116 l := fun a cap hk => by
 refine factC hm Tryz.func116 (by kernel_rfl) rfl rfl ?_
 refine wX ?_
 refine call1 (NoFn_c 136 #[] a l cap (fun _ => True) hk (fun k h => argsn_c hx (hl k h).1 (hk.k k h) (hl k h).2) _ (fun w hw => ⟨hw.1.1, hw.1.2, trivial⟩)) ?_
 refine wX ?_
 rfl
theorem arg_op {t : TP} (h : V .arg t) : t.op ≠ 23 ∧ t.op ≠ 24 := by
 rcases arg_cases h with h | ⟨a, c, k, _, rfl⟩
 ·obtain ⟨_, _, _, h1, h2, _⟩ := V.exOp h
  exact ⟨h1, h2⟩
 ·exact ⟨by show ¬ (22 : Int) = 23; decide, by show ¬ (22 : Int) = 24; decide⟩
set_option maxHeartbeats 4000000 in
theorem cut_c {n : Nat} (hx : Hx n) {l b : List TP} (hl : Sm n .arg l) (hb : Sm n .blk b) (h1 : b.length ≤ 1) (a : Option Addr) (cap : Nat) (hk : LsK a cap (l ++ b)) : ∀ H, (∀ w, Facts H w → ScanF w ∧ LsF a (l ++ b) w) →
  SpecH Tryz.prog 115 (pvs [.slice a (l ++ b).length cap]) H (Ret (.tuple #[.slice a l.length cap, .bool true]) H) := by
 have hll := hk.len
 have hcap := hk.cap
 match b, h1 with
 | [], _ =>
  rw [List.append_nil] at hk hll hcap ⊢
  rcases List.eq_nil_or_concat l with rfl | ⟨m, s, hms⟩
  ·refine factC hm Tryz.func115 (by kernel_rfl) rfl rfl ?_
   exact wZ
  ·rw [List.concat_eq_append] at hms
   subst hms
   have hlen : (m ++ [s]).length = m.length + 1 := by simp
   obtain ⟨o1, o2⟩ := arg_op (hl s (by simp)).2
   have hsa : a.isSome = true := isT (i := m.length) (x := s) hk.nil (by simp)
   rw [hlen] at hll hcap ⊢
   have hw1 : IntKind.i64.wrap (((m.length + 1 : Nat) : Int) - 1) = ((m.length : Nat) : Int) := by rw [wrap_i64 (by omega)]; omega
   refine factC hm Tryz.func115 (by kernel_rfl) rfl rfl ?_
   refine wX ?_
   rw [hw1]
   refine Nd.mk ⟨hsa, by omega, by omega⟩ ?_
   refine wX ?_
   refine LdN.agg (nodeC s) rfl (fun w hw => hw.1.2.1) rfl (fun j hj => by
    rw [Int.toNat_natCast]
    exact nodesC_get (m ++ [s]) m.length j hj (by simp)) ?_
   refine wX ?_
   refine brd_eq (fun h => absurd h o1) (fun _ => ?_)
   refine wX ?_
   refine brd_eq (fun h => absurd h o2) (fun _ => ?_)
   exact wZ
 | [s], _ =>
  have hlen : (l ++ [s]).length = l.length + 1 := by simp
  obtain ⟨hsz, hsv⟩ := hb s (by simp)
  have hsk : TreeK s := hk.k s (by simp)
  have hsa : a.isSome = true := isT (i := l.length) (x := s) hk.nil (by simp)
  rw [hlen] at hll hcap ⊢
  have hw1 : IntKind.i64.wrap (((l.length + 1 : Nat) : Int) - 1) = ((l.length : Nat) : Int) := by rw [wrap_i64 (by omega)]; omega
  refine factC hm Tryz.func115 (by kernel_rfl) rfl rfl ?_
  refine wX ?_
  rw [hw1]
  refine Nd.mk ⟨hsa, by omega, by omega⟩ ?_
  refine wX ?_
  cases hsv with
  | bpass hkv =>
   rename_i a' c' k _
   have hka : a'.isSome = true := kid_some (i := 0) hsk rfl
   refine LdN.agg [.int .i64 23, .string (bs []), .int .i64 0, .slice a' 1 c'] rfl (fun w hw => hw.1.2.1) rfl (fun j hj => by
    rw [Int.toNat_natCast]
    exact nodesC_get (t := ⟨23, [], 0, a', [k], c'⟩) (l ++ [⟨23, [], 0, a', [k], c'⟩]) l.length j hj (by simp)) ?_
   refine wX ?_
   refine ReadW.slc_hi rfl (by kernel_rfl) rfl rfl (by rw [hw1]; omega) ?_
   rw [hw1, Int.toNat_natCast]
   refine wX ?_
   refine callQ (unnamed_c (⟨23, [], 0, a', [k], c'⟩ : TP) rfl rfl _) ?_
   refine wX ?_
   refine Nd.mk ⟨hka, by decide, by decide⟩ ?_
   refine wX ?_
   refine LdN.agg (a := a') (q := 0) (nodeC k) rfl (fun w hw => (hw.1.2.2 _ (List.mem_append.2 (.inr (List.mem_singleton.2 rfl)))).row) rfl (fun j hj => nodesC_get [k] 0 j hj rfl) ?_
   refine wX ?_
   refine callQ (expr_c hx (sz_one hsz) (hsk.kid (List.mem_singleton.2 rfl)) hkv _ ?_) ?_
   ·exact fun w hw => ⟨hw.1.1, (hw.1.2.2 _ (List.mem_append.2 (.inr (List.mem_singleton.2 rfl)))).kid (List.mem_singleton.2 rfl)⟩
   exact wZ
  | block hpl hpo hqs hqo =>
   rename_i a' c' m q _
   have hlm : (m ++ [q]).length = m.length + 1 := by simp
   refine LdN.agg [.int .i64 24, .string (bs []), .int .i64 0, .slice a' (m ++ [q]).length c'] rfl (fun w hw => hw.1.2.1) rfl (fun j hj => by
    rw [Int.toNat_natCast]
    exact nodesC_get (t := ⟨24, [], 0, a', m ++ [q], c'⟩) (l ++ [⟨24, [], 0, a', m ++ [q], c'⟩]) l.length j hj (by simp)) ?_
   refine wX ?_
   refine ReadW.slc_hi rfl (by kernel_rfl) rfl rfl (by rw [hw1]; omega) ?_
   rw [hw1, Int.toNat_natCast]
   refine wX ?_
   refine callQ (unnamed_c (⟨24, [], 0, a', m ++ [q], c'⟩ : TP) rfl rfl _) ?_
   refine wX ?_
   have hin : ∀ k ∈ m ++ [q], k.sz < n := fun k hk => by
    have := sz_kid (t := (⟨24, [], 0, a', m ++ [q], c'⟩ : TP)) (k := k) hk
    omega
   refine callQ (body_c hx (l := m) (s := q) (fun k hk => ⟨hin k (by simp [hk]), hpl k hk⟩) hpo (hin q (by simp)) hqs hqo a' c' hsk.ls _ ?_) ?_
   ·exact fun w hw => ⟨hw.1.1, (hw.1.2.2 _ (List.mem_append.2 (.inr (List.mem_singleton.2 rfl)))).ls⟩
   exact wZ
set_option maxHeartbeats 4000000 in
theorem called_c {n : Nat} (hx : Hx n) {l b : List TP} (hl : Sm n .arg l) (hb : Sm n .blk b) (h1 : b.length ≤ 1) : YesL 82 (l ++ b) := fun a cap hk => by
 refine factC hm Tryz.func82 (by kernel_rfl) rfl rfl ?_
 refine wX ?_
 refine call1 (cut_c hx hl hb h1 a cap hk _ (fun w hw => hw.1)) ?_
 refine wX ?_
 have hlk : LsK a cap l := by have := hk.take l.length; rwa [List.take_left] at this
 refine call1 (args_c hx hl a cap hlk _ (fun w hw => ⟨hw.1.1, by have := hw.1.2.take l.length; rwa [List.take_left] at this⟩)) ?_
 exact wZ
end Go.Proofs.YtpikpjlhdkkigaaGreatDoor
namespace Go.AX
theorem BlindW.len {P : Program} {o : Oper} {s : List AV} {K : AV → Prop} {x : Operand} {T e : TypeId} {args : Array Operand} {ts : Array TypeId} {p : Option Addr} {n c : Nat} (ho : o.op = .call { callee := .builtin .len, args := args, argTypes := ts }) (ha : args = #[x]) (ht : ts = #[T]) (hu : P.underlying T = some (.slice e))
  (hx : opv s x = .c (.v (.slice p n c))) (hk : K (.c (.v (.int .i64 (n : Int))))) : ∃ x, BlindW P o s K x := by
 subst ha ht
 refine ⟨.int .i64 (n : Int), ?_, fun w => execOp_blt ho fun consts => ?_, hk⟩
 ·rw [ho]
  show allPlain s [x] = true
  simp [allPlain, hx]
 ·have he : plainEv s x = .slice p n c := by unfold plainEv; rw [hx]
  simp [builtin, Builtin.len_, run_underlying hu, he, goInt]
end Go.AX
namespace Go.AX
def frontK (P : Program) (C : World → Prop) (o : Oper) (s : List AV) (K : AV → Prop) : Prop :=
 match o.op with
 | .load _ _ => ∃ x, ReadC P C o s K x
 | .indexAddr _ _ _ => ∃ x, ReadC P C o s K x
 | _ => blindK P o s K
def execF (P : Program) (C : World → Prop) (ops : Array Oper) (l : List Nat) : List AV → (List AV → Prop) → Prop :=
 List.rec (motive := fun _ => List AV → (List AV → Prop) → Prop)
  (fun s K => K s)
  (fun k _ ih s K => pickK ops k fun o => wantK ops o s (fun s => frontK P C o s fun av => putK s o.dst av fun s' => ih s' K)
   (fun s => putK s o.dst (.c (.v undef)) fun s' => ih s' K)) l
def stepJ (P : Program) (ops : Array Oper) (i : Nat) (s : List AV) (H : List Ent) (K : Ex → List AV → List Ent → Prop) (J : List AV → List Ent → Prop) : Prop :=
 pickK ops i fun o => wantK ops o s (fun s => stepK P o s H fun out H' => match out with
  | .val av => putK s o.dst av fun s' => J s' H'
  | .vals _ => False
  | .pan c => K (.pan c) s H') (fun s => putK s o.dst (.c (.v undef)) fun s' => J s' H)
def ClosedJ (P : Program) (ops : Array Oper) (C : World → Prop) (K : Ex → List AV → List Ent → Prop) (J : Nat → Array Bool → List AV → List Ent → Prop) : Prop :=
 ∀ n ls s H, J n ls s H → (∀ w, Facts H w → C w) ∧ ((Region.ready .any ops ls = [] ∧ K .normal s H) ∨ (Region.ready .any ops ls ≠ [] ∧ ∃ m, n = m + 1 ∧ ∀ i ∈ Region.ready .any ops ls, stepJ P ops i s H K (J m (ls.setIfInBounds i true))))
section
variable {P : Program} {ops : Array Oper} {C : World → Prop} {K : Ex → List AV → List Ent → Prop} {ρ0 : List Loc} {S0 : Nat → Prop} {H0 : List Ent} {w0 : World} {dfs : List Deferred}
theorem closed_sound {J : Nat → Array Bool → List AV → List Ent → Prop} (hJ : ClosedJ P ops C K J) : ∀ (n : Nat) (ls : Array Bool) (s : List AV) (H : List Ent), J n ls s H → ∀ (ρ : List Loc) (S : Nat → Prop) (w : World) (a : Act), Ev ρ0 S0 H0 w0 ρ S H w → a.defers = dfs → Sat ρ S H w → RelS ρ s a.tmps.toList →
  AnyC P ops (Post ρ0 S0 H0 w0 dfs K) C [] n ls a w := by
 intro n
 induction n with
 | zero =>
  intro ls s H h ρ S w a hev hdf hs hr
  obtain ⟨hC, h2⟩ := hJ 0 ls s H h
  rcases h2 with ⟨h3, h4⟩ | ⟨_, m, h3, _⟩
  ·exact ⟨fun _ => hC w hs.facts, h3, ρ, S, s, H, .normal, hs, hev, hr, hdf, trivial, h4⟩
  ·cases h3
 | succ n ih =>
  intro ls s H h ρ S w a hev hdf hs hr
  obtain ⟨hC, h2⟩ := hJ (n + 1) ls s H h
  refine ⟨fun _ => hC w hs.facts, fun h0 => ?_, fun i hi => ?_⟩
  ·rcases h2 with ⟨_, h4⟩ | ⟨h3, _⟩
   ·exact ⟨ρ, S, s, H, .normal, hs, hev, hr, hdf, trivial, h4⟩
   ·exact absurd h0 h3
  ·rcases h2 with ⟨h3, _⟩ | ⟨_, m, hm, h4⟩
   ·rw [h3] at hi; cases hi
   ·obtain rfl : n = m := by omega
    obtain ⟨o, ho, hq⟩ := pickK_spec (h4 i hi)
    unfold wpOp
    simp only [ho]
    rcases wantK_spec hq hr with ⟨hw, s', h', hr'⟩ | ⟨hw, s', h', hr'⟩
    ·rw [if_pos hw]
     refine .inl (step_sound (K := fun out H' => match out with
      | .val av => putK s' o.dst av fun s2 => J n (ls.setIfInBounds i true) s2 H'
      | .vals _ => False
      | .pan c => K (.pan c) s' H') h' hs hr' (fun ρ1 S1 H1 w1 av v hs1 hev1 hrel hK => ?_) (fun ρ1 S1 H1 w1 c hs1 hev1 hK => ?_) fun _ _ h => h)
     ·obtain ⟨s2, hK2, hput⟩ := putK_spec hK
      have hrs : RelS ρ1 s' a.tmps.toList := by obtain ⟨t, ht⟩ := hev1.pre; rw [ht]; exact RelS_pre t hr'
      exact ih _ s2 H1 hK2 ρ1 S1 w1 _ (hev.trans hev1) (by rw [put_defers]; exact hdf) hs1 (hput ρ1 a v hrs hrel)
     ·exact ⟨ρ1, S1, s', H1, .pan c, hs1, hev.trans hev1, trivial, hdf, rfl, hK⟩
    ·rw [if_neg (by simp [hw])]
     obtain ⟨s2, hK2, hput⟩ := putK_spec h'
     exact ih _ s2 H hK2 ρ S w _ hev (by rw [put_defers]; exact hdf) hs (hput ρ a undef hr' rfl)
theorem front_sound {Q : Exit → Act → World → Prop} {ρ : List Loc} {w : World} {g : Nat} {Ks : List AV → Prop} {ls2 : Array Bool} (hsel : Region.noSelect ops = true) (hQ : ∀ c a d v w, Q (.panic c) (Act.put a d v) w → Q (.panic c) a w)
  (next : ∀ s a, Ks s → RelS ρ s a.tmps.toList → a.defers = dfs → AnyC P ops Q C [] g ls2 a w) : ∀ (l : List Nat) (s : List AV) (ls : Array Bool) (a : Act), execF P C ops l s Ks → preB .any ops l ls = true → setAll ls l = ls2 → RelS ρ s a.tmps.toList → a.defers = dfs →
   AnyC P ops Q C [] (l.length + g) ls a w
 | [], s, ls, a, h, _, he, hr, hd => by
  have he' : ls = ls2 := he
  subst he'
  rw [List.length_nil, Nat.zero_add]; exact next s a h hr hd
 | k :: l, s, ls, a, h0, hB, he, hr, hd => by
  have h : pickK ops k fun o => wantK ops o s (fun s => frontK P C o s fun av => putK s o.dst av fun s' => execF P C ops l s' Ks) (fun s => putK s o.dst (.c (.v undef)) fun s' => execF P C ops l s' Ks) := h0
  obtain ⟨o, ho, hq⟩ := pickK_spec h
  simp only [preB, Bool.and_eq_true] at hB
  have hk1 : k ∈ Region.ready .any ops ls := by simpa using hB.1.1
  rw [List.length_cons, Nat.add_right_comm]
  have fin : ∀ (v : Value) (s2 : List AV), Yields P ops o v a → execF P C ops l s2 Ks → RelS ρ s2 (a.put o.dst v).tmps.toList → AnyC P ops Q C [] (l.length + g + 1) ls a w := fun v s2 hy hK hr2 =>
   anyC_blind ho (Region.noSelect_spec hsel) (fun c a w h => hQ c a _ _ w h) (by simp) _ ls _ w (fun j oj hj hne hun hno => Region.free_spec ho hB.1.2 j oj hj hne hun hno) hk1 hy
    (front_sound hsel hQ next l s2 _ _ hK hB.2 he hr2 (by rw [put_defers]; exact hd))
  have finR : ∀ (v : Value) (s2 : List AV), YR P ops C o v a → execF P C ops l s2 Ks → RelS ρ s2 (a.put o.dst v).tmps.toList → AnyC P ops Q C [] (l.length + g + 1) ls a w := fun v s2 hy hK hr2 =>
   anyC_read ho (Region.noSelect_spec hsel) (fun c a w h => hQ c a _ _ w h) _ ls _ w (fun j oj hj hne hun hno => Region.free_spec ho hB.1.2 j oj hj hne hun hno) hk1 hy
    (front_sound hsel hQ next l s2 _ _ hK hB.2 he hr2 (by rw [put_defers]; exact hd))
  rcases wantK_spec hq hr with ⟨hw, s', h', hr'⟩ | ⟨hw, s', h', hr'⟩
  ·by_cases hld : (∃ T x, o.op = .load T x) ∨ ∃ T x i, o.op = .indexAddr T x i
   ·have h2 : ∃ x, ReadC P C o s' (fun av => putK s' o.dst av fun s2 => execF P C ops l s2 Ks) x := by
     have h3 := h'
     unfold frontK at h3
     rcases hld with ⟨T, y, hop⟩ | ⟨T, y, i, hop⟩
     ·simp only [hop] at h3
      exact h3
     ·simp only [hop] at h3
      exact h3
    obtain ⟨x, rc⟩ := h2
    obtain ⟨s2, hK2, hput⟩ := putK_spec rc.next
    refine finR x s2 (.inl ⟨hw, fun w' hw' => ?_⟩) hK2 (hput ρ a x hr' rfl)
    rw [execOp_congr o rc.sel (ρ' := plainEv s') fun y hy => allPlain_eval hr' _ rc.plain y (Array.mem_toList_iff.2 hy)]
    exact rc.run w' hw'
   ·have h2 : blindK P o s' fun av => putK s' o.dst av fun s2 => execF P C ops l s2 Ks := by
     have h3 := h'
     unfold frontK at h3
     split at h3
     ·rename_i T x hop
      exact absurd (.inl ⟨T, x, hop⟩) hld
     ·rename_i T x i hop
      exact absurd (.inr ⟨T, x, i, hop⟩) hld
     ·exact h3
    obtain ⟨av, v, hK, hrel, hrun⟩ := blind_sound (K := fun av => putK s' o.dst av fun s2 => execF P C ops l s2 Ks) h2 hr'
    obtain ⟨s2, hK2, hput⟩ := putK_spec hK
    exact fin v s2 (.inl ⟨hw, hrun⟩) hK2 (hput ρ a v hr' hrel)
  ·obtain ⟨s2, hK2, hput⟩ := putK_spec h'
   exact fin undef s2 (.inr ⟨hw, rfl⟩) hK2 (hput ρ a undef hr' rfl)
end
theorem DrawN.walk {P : Program} {ops : Array Oper} {s : List AV} {H : List Ent} {K : Ex → List AV → List Ent → Prop} (hm : P.follows .mixedOrders = true) (C : World → Prop) (rd : List Nat) (n : Nat) (J : Nat → Array Bool → List AV → List Ent → Prop) (hsel : Region.noSelect ops = true) (hn : decide (ops.size = rd.length + n) = true) (hrd : preB .any ops rd (Array.replicate ops.size false) = true)
  (hJ : ClosedJ P ops C K J) (next : execF P C ops rd s fun s1 => J n (setAll (Array.replicate ops.size false) rd) s1 H) : DrawN P ops s H K :=
 .sem fun id ρ S w a hs hr => by
  have hn := of_decide_eq_true hn
  refine wp_region_any hm ?_
  have e0 : wpAny P .any ops (Post ρ S H w a.defers K) ops.size = wpAny P .any ops (Post ρ S H w a.defers K) (rd.length + n) := by rw [← hn]
  rw [e0]
  refine AnyC.any _ _ _ _ (front_sound (C := C) (dfs := a.defers) (ρ := ρ) hsel (fun c a d v w h => h.put) (fun s1 a1 h1 hr1 hd1 => ?_) rd s _ a next hrd rfl hr rfl)
  exact closed_sound hJ n _ s1 H h1 ρ S _ a1 (Ev.drew ρ S H w) hd1 (hs.heap rfl) hr1
theorem SemR.mono {P : Program} {ops : Array Oper} {s : List AV} {H : List Ent} {K K' : Ex → List AV → List Ent → Prop} (h : SemR P ops s H K') (hk : ∀ ex s' H', K' ex s' H' → K ex s' H') : SemR P ops s H K :=
 fun id ρ S w a hs hr => wp_mono (h id ρ S w a hs hr) fun e a' w' ⟨ρ', S', s', H', ex, h1, h2, h3, h4, h5, h6⟩ => ⟨ρ', S', s', H', ex, h1, h2, h3, h4, h5, hk _ _ _ h6⟩
theorem BlindW.lenS {P : Program} {o : Oper} {s : List AV} {K : AV → Prop} {x : Operand} {T : TypeId} {args : Array Operand} {ts : Array TypeId} {b : ByteArray} (ho : o.op = .call { callee := .builtin .len, args := args, argTypes := ts }) (ha : args = #[x]) (ht : ts = #[T]) (hu : P.underlying T = some .string)
  (hx : opv s x = .c (.v (.string b))) (hk : K (.c (.v (.int .i64 (b.size : Int))))) : ∃ x, BlindW P o s K x := by
 subst ha ht
 refine ⟨.int .i64 (b.size : Int), ?_, fun w => execOp_blt ho fun consts => ?_, hk⟩
 ·rw [ho]
  show allPlain s [x] = true
  simp [allPlain, hx]
 ·have he : plainEv s x = .string b := by unfold plainEv; rw [hx]
  simp [builtin, Builtin.len_, run_underlying hu, he, goInt]
end Go.AX
namespace Go.AX
theorem ReadC.idxS {P : Program} {C : World → Prop} {o : Oper} {s : List AV} {K : AV → Prop} {T : TypeId} {x i : Operand} {b : ByteArray} {kk : IntKind} {n : Int} (ho : o.op = .index T x i) (hu : P.underlying T = some .string)
  (hx : opv s x = .c (.v (.string b))) (hy : opv s i = .c (.v (.int kk n))) (hn : 0 ≤ n ∧ n < (b.size : Int)) (next : K (.c (.v (.int .u8 (byteAt b n.toNat))))) : ∃ x, ReadC P C o s K x := by
 refine ⟨.int .u8 (byteAt b n.toNat), fun cs b e => (by rw [ho] at e; cases e), by rw [ho]; show allPlain s [x, i] = true; simp [allPlain, hx, hy], fun w _ => ?_, next⟩
 have hx2 : plainEv s x = .string b := by unfold plainEv; rw [hx]
 have hi2 : plainEv s i = .int kk n := by unfold plainEv; rw [hy]
 unfold execOp
 simp only [ho, hx2, hi2, Sem.run_bind, run_index_string w b kk n hu hn, Result.andThen_ok, Sem.run_pure]
end Go.AX
namespace Go.Proofs.YtpikpjlhdkkigaaGreatDoor
open Go.AX Go.RowKit Go.Tree Go.Scan
set_option maxRecDepth 20000
def tlA (a : Option Addr) (cap : Nat) : Option Addr := if cap = 1 then a else a.map (·.add (1 * 4))
theorem LsK.tl {a : Option Addr} {cap : Nat} {k : TP} {l : List TP} (h : LsK a cap (k :: l)) : LsK (tlA a cap) (cap - 1) l := by
 have hc := h.cap
 rw [List.length_cons] at hc
 refine ⟨by omega, fun ha => ?_, by have := h.len; rw [List.length_cons] at this; omega, fun q hq => h.k q (List.mem_cons_of_mem _ hq)⟩
 unfold tlA at ha
 split at ha
 ·exact List.eq_nil_of_length_eq_zero (by omega)
 ·cases a with
  | none => have := h.nil rfl; cases this
  | some b => cases ha
theorem LsF.tl {a : Option Addr} {cap : Nat} {k : TP} {l : List TP} {w : World} (hc : l.length + 1 ≤ cap) (h : LsF a (k :: l) w) : LsF (tlA a cap) l w := by
 obtain ⟨⟨h1, h2, h3⟩, h4⟩ := h
 refine ⟨⟨nodesC_len _, fun hp => ?_, fun j hj => ?_⟩, fun q hq => h4 q (List.mem_cons_of_mem _ hq)⟩
 ·have := h2 (by rw [List.length_cons]; omega)
  unfold tlA
  rw [if_neg (by omega)]
  cases a with
  | none => cases this
  | some b => rfl
 ·have hs := h2 (by rw [List.length_cons]; omega)
  have h5 := h3 (4 + j) (by rw [List.length_cons]; omega)
  unfold tlA
  rw [if_neg (by omega)]
  cases a with
  | none => cases hs
  | some b =>
   show w.cell? ((b.add 4).add j) = _
   rw [Addr.add_add]
   refine h5.trans ?_
   unfold nodesC
   rw [List.flatMap_cons, List.getElem?_append_right (by show 4 ≤ 4 + j; omega)]
   show (List.flatMap nodeC l)[4 + j - 4]? = _
   rw [Nat.add_sub_cancel_left]
set_option maxHeartbeats 4000000 in
theorem callop_c {n : Nat} (hx : Hx n) {x : List UInt8} {a : Option Addr} {c : Nat} {k : TP} {l : List TP} (h : opS x = true) (hk : V .ex k) (hl : ∀ k ∈ l, V .ex k) (h1 : 1 ≤ l.length) (h2 : x = ix2 → 2 ≤ l.length) (h3 : x ≠ ix1 → x ≠ ix2 → l.length = 1)
  (hs : (⟨17, x, 0, a, k :: l, c⟩ : TP).sz ≤ n) (ht : TreeK ⟨17, x, 0, a, k :: l, c⟩) : Yes 62 ⟨17, x, 0, a, k :: l, c⟩ := by
 have hme : meB x = true := by unfold meB; rw [show opL.contains x = true from h]; rfl
 refine factC (xs := [.agg #[.int .i64 17, .string (bs x), .int .i64 0, .slice a (k :: l).length c]]) hm Tryz.func62 (by kernel_rfl) rfl rfl ?_
 have hsa : a.isSome = true := kid_some (i := 0) ht rfl
 have hxl : x.length ≤ 1048576 := ht.str
 have htl : LsK (tlA a c) (c - 1) (l) := ht.ls.tl
 have hcap : (l).length + 1 ≤ c := ht.cap
 have hlen : (l).length ≤ 1048576 := by have : (l).length + 1 ≤ 1048576 := ht.len; omega
 have hlc : (k :: l).length = (l).length + 1 := rfl
 have hdz : (((k :: l).length : Int) == 0) = false := by rw [hlc]; first | (simp; done) | (simp; omega)
 have hksz : k.sz < n := by have := sz_kid (t := (⟨17, x, 0, a, k :: l, c⟩ : TP)) (k := k) (List.mem_cons_self ..); omega
 (conv => whnf)
 refine BoxN.known [.int .i64 17, .string (bs x), .int .i64 0, .slice a (k :: l).length c] rfl fun nb => ?_
 refine wX ?_
 refine LdN.one (a := some ⟨nb, 0, none⟩) (q := 3) (.slice a (k :: l).length c) rfl (fun w hw => hw.2.1) rfl ?_
 refine wX ?_
 rw [hdz]
 refine wX ?_
 refine LdN.one (a := some ⟨nb, 0, none⟩) (q := 3) (.slice a (k :: l).length c) rfl (fun w hw => hw.2.1) rfl ?_
 refine wX ?_
 refine Nd.mk ⟨hsa, by decide, by omega⟩ ?_
 refine wX ?_
 refine LdN.agg (a := a) (q := 0) (nodeC k) rfl (fun w hw => hw.1.2.row) rfl (fun j hj => nodesC_get (k :: l) 0 j hj rfl) ?_
 refine wX ?_
 refine call1 (expr_c hx hksz (ht.kid (List.mem_cons_self ..)) hk _ (fun w hw => ⟨hw.1.1, hw.1.2.kid (List.mem_cons_self ..)⟩)) ?_
 refine wX ?_
 refine LdN.one (a := some ⟨nb, 0, none⟩) (q := 1) (.string (bs x)) rfl (fun w hw => hw.2.1) rfl ?_
 refine wX ?_
 refine call1 (IsMethod_c x (by omega) _ (fun w hw => hw.1.1)) ?_
 rw [show (opL.contains x || inB x || setB x) = true from hme]
 refine wX ?_
 refine LdN.one (a := some ⟨nb, 0, none⟩) (q := 2) (.int .i64 0) rfl (fun w hw => hw.2.1) rfl ?_
 refine wX ?_
 refine LdN.one (a := some ⟨nb, 0, none⟩) (q := 2) (.int .i64 0) rfl (fun w hw => hw.2.1) rfl ?_
 refine wX ?_
 refine LdN.one (a := some ⟨nb, 0, none⟩) (q := 3) (.slice a (k :: l).length c) rfl (fun w hw => hw.2.1) rfl ?_
 refine wX ?_
 refine ReadW.slc_lo (e := 25) (sz := 4) 1 (l).length (tlA a c) rfl Tryz.underlying23 rfl rfl rfl rfl ⟨rfl, by omega, by omega⟩ (by omega) rfl ?_
 ((conv => whnf); (repeat ((first | refine VrN.keep ?_ | refine BoxN.own ?_ | refine RwN.own ?_); (conv => whnf))))
 refine DrawN.planC (fun w => SlAt (some ⟨nb, 0, none⟩) 4 [.int .i64 17, .string (bs x), .int .i64 0, .slice a (k :: l).length c] w) [1] [(2, 1), (0, 0), (3, 0), (4, 2), (5, 2), (6, 2), (7, 1), (8, 2), (9, 1), (10, 2), (11, 2), (12, 1), (13, 2), (14, 2)] [] (by decide +kernel) (fun w hw => hw.2.1) ?_
 refine wXO ?_
 refine ReadC.one (a := some ⟨nb, 0, none⟩) (q := 1) (.string (bs x)) rfl rfl rfl (fun w hw => hw) rfl ?_
 refine wXO ?_
 refine SpecF.call Operators_c (fun w hw => hw.1.1) fun v G hR => ?_
 obtain ⟨ob, rfl, hG⟩ := hR
 refine wXO ?_
 refine call1 (Contains_c (some ⟨ob, 0, none⟩) opL 16 x (fun _ => rfl) (by decide) _ (fun w hw => hG w hw.2.2.1)) ?_
 rw [show opL.contains x = true from h]
 refine wXO ?_
 have hls : Sm n .ex l := fun q hq => by
  have := sz_kid (t := (⟨17, x, 0, a, k :: l, c⟩ : TP)) (k := q) (List.mem_cons_of_mem _ hq)
  exact ⟨by omega, hl q hq⟩
 refine LdN.one (a := some ⟨nb, 0, none⟩) (q := 1) (.string (bs x)) rfl (fun w hw => hw.2.1) rfl ?_
 refine wX ?_
 refine brd_intro (fun e => ?_) (fun e => ?_)
 ·-- how many there are, and that they are exprs; l: the fact on their kinds
  refine wX ?_
  refine LdN.one (a := some ⟨nb, 0, none⟩) (q := 2) (.int .i64 0) rfl (fun w hw => hw.2.1) rfl ?_
  refine wX ?_
  refine brd_dec (fun _ => ?_) (fun h => by omega)
  refine wX ?_
  refine brd_dec (fun _ => ?_) (fun h => by omega)
  refine wX ?_
  refine call1 (exprs_c hx (l := l) (hls) (tlA a c) (c - 1) htl _ (fun w hw => ⟨hw.1.1, hw.1.2.ls.tl hcap⟩)) ?_
  exact wZ
 ·have e1 : x ≠ ix1 := fun h => by
   have : (x == ix1) = false := e
   rw [h] at this
   simp at this
  refine wX ?_
  refine brd_intro (fun e => ?_) (fun e => ?_)
  ·have e2 := h2 (eq_of_beq (show (x == ix2) = true from e))
   refine wX ?_
   refine LdN.one (a := some ⟨nb, 0, none⟩) (q := 2) (.int .i64 0) rfl (fun w hw => hw.2.1) rfl ?_
   refine wX ?_
   refine brd_dec (fun _ => ?_) (fun h => by omega)
   refine wX ?_
   refine brd_dec (fun _ => ?_) (fun h => by omega)
   refine wX ?_
   refine call1 (exprs_c hx (l := l) (hls) (tlA a c) (c - 1) htl _ (fun w hw => ⟨hw.1.1, hw.1.2.ls.tl hcap⟩)) ?_
   exact wZ
  ·have e3 : x ≠ ix2 := fun h => by
    have : (x == ix2) = false := e
    rw [h] at this
    simp at this
   have e4 := h3 e1 e3
   refine wX ?_
   refine LdN.one (a := some ⟨nb, 0, none⟩) (q := 2) (.int .i64 0) rfl (fun w hw => hw.2.1) rfl ?_
   refine wX ?_
   refine brd_dec (fun _ => ?_) (fun h => by omega)
   refine wX ?_
   refine brd_dec (fun _ => ?_) (fun h => by omega)
   refine wX ?_
   refine call1 (exprs_c hx (l := l) (hls) (tlA a c) (c - 1) htl _ (fun w hw => ⟨hw.1.1, hw.1.2.ls.tl hcap⟩)) ?_
   exact wZ
set_option maxHeartbeats 4000000 in
theorem callset_c {n : Nat} (hx : Hx n) {x : List UInt8} {a : Option Addr} {c : Nat} {k q : TP} (hme : meB x = true) (ho : opS x = false) (he : x.getLast? = some 61) (hk : V .ex k) (hq : V .ex q)
  (hs : (⟨17, x, 0, a, [k, q], c⟩ : TP).sz ≤ n) (ht : TreeK ⟨17, x, 0, a, [k, q], c⟩) : Yes 62 ⟨17, x, 0, a, [k, q], c⟩ := by
 refine factC (xs := [.agg #[.int .i64 17, .string (bs x), .int .i64 0, .slice a ([k, q]).length c]]) hm Tryz.func62 (by kernel_rfl) rfl rfl ?_
 have hsa : a.isSome = true := kid_some (i := 0) ht rfl
 have hxl : x.length ≤ 1048576 := ht.str
 have htl : LsK (tlA a c) (c - 1) ([q]) := ht.ls.tl
 have hcap : ([q]).length + 1 ≤ c := ht.cap
 have hlen : ([q]).length ≤ 1048576 := by have : ([q]).length + 1 ≤ 1048576 := ht.len; omega
 have hlc : ([k, q]).length = ([q]).length + 1 := rfl
 have hdz : ((([k, q]).length : Int) == 0) = false := by rw [hlc]; first | (simp; done) | (simp; omega)
 have hksz : k.sz < n := by have := sz_kid (t := (⟨17, x, 0, a, [k, q], c⟩ : TP)) (k := k) (List.mem_cons_self ..); omega
 (conv => whnf)
 refine BoxN.known [.int .i64 17, .string (bs x), .int .i64 0, .slice a ([k, q]).length c] rfl fun nb => ?_
 refine wX ?_
 refine LdN.one (a := some ⟨nb, 0, none⟩) (q := 3) (.slice a ([k, q]).length c) rfl (fun w hw => hw.2.1) rfl ?_
 refine wX ?_
 rw [hdz]
 refine wX ?_
 refine LdN.one (a := some ⟨nb, 0, none⟩) (q := 3) (.slice a ([k, q]).length c) rfl (fun w hw => hw.2.1) rfl ?_
 refine wX ?_
 refine Nd.mk ⟨hsa, by decide, by omega⟩ ?_
 refine wX ?_
 refine LdN.agg (a := a) (q := 0) (nodeC k) rfl (fun w hw => hw.1.2.row) rfl (fun j hj => nodesC_get ([k, q]) 0 j hj rfl) ?_
 refine wX ?_
 refine call1 (expr_c hx hksz (ht.kid (List.mem_cons_self ..)) hk _ (fun w hw => ⟨hw.1.1, hw.1.2.kid (List.mem_cons_self ..)⟩)) ?_
 refine wX ?_
 refine LdN.one (a := some ⟨nb, 0, none⟩) (q := 1) (.string (bs x)) rfl (fun w hw => hw.2.1) rfl ?_
 refine wX ?_
 refine call1 (IsMethod_c x (by omega) _ (fun w hw => hw.1.1)) ?_
 rw [show (opL.contains x || inB x || setB x) = true from hme]
 refine wX ?_
 refine LdN.one (a := some ⟨nb, 0, none⟩) (q := 2) (.int .i64 0) rfl (fun w hw => hw.2.1) rfl ?_
 refine wX ?_
 refine LdN.one (a := some ⟨nb, 0, none⟩) (q := 2) (.int .i64 0) rfl (fun w hw => hw.2.1) rfl ?_
 refine wX ?_
 refine LdN.one (a := some ⟨nb, 0, none⟩) (q := 3) (.slice a ([k, q]).length c) rfl (fun w hw => hw.2.1) rfl ?_
 refine wX ?_
 refine ReadW.slc_lo (e := 25) (sz := 4) 1 ([q]).length (tlA a c) rfl Tryz.underlying23 rfl rfl rfl rfl ⟨rfl, by omega, by omega⟩ (by omega) rfl ?_
 ((conv => whnf); (repeat ((first | refine VrN.keep ?_ | refine BoxN.own ?_ | refine RwN.own ?_); (conv => whnf))))
 refine DrawN.planC (fun w => SlAt (some ⟨nb, 0, none⟩) 4 [.int .i64 17, .string (bs x), .int .i64 0, .slice a ([k, q]).length c] w) [1] [(2, 1), (0, 0), (3, 0), (4, 2), (5, 2), (6, 2), (7, 1), (8, 2), (9, 1), (10, 2), (11, 2), (12, 1), (13, 2), (14, 2)] [] (by decide +kernel) (fun w hw => hw.2.1) ?_
 refine wXO ?_
 refine ReadC.one (a := some ⟨nb, 0, none⟩) (q := 1) (.string (bs x)) rfl rfl rfl (fun w hw => hw) rfl ?_
 refine wXO ?_
 refine SpecF.call Operators_c (fun w hw => hw.1.1) fun v G hR => ?_
 obtain ⟨ob, rfl, hG⟩ := hR
 refine wXO ?_
 refine call1 (Contains_c (some ⟨ob, 0, none⟩) opL 16 x (fun _ => rfl) (by decide) _ (fun w hw => hG w hw.2.2.1)) ?_
 rw [show opL.contains x = false from ho]
 refine wXO ?_
 have hls : Sm n .ex [q] := fun p hp => by
  rw [List.mem_singleton.1 hp]
  have := sz_kid (t := (⟨17, x, 0, a, [k, q], c⟩ : TP)) (k := q) (by simp)
  exact ⟨by omega, hq⟩
 obtain ⟨y, r, rfl⟩ : ∃ y r, x = r ++ [y] := by
  rcases List.eq_nil_or_concat x with e | ⟨r, y, e⟩
  ·rw [e] at hme; exact absurd hme (by decide)
  ·exact ⟨y, r, by rw [e, List.concat_eq_append]⟩
 have hz := bs_size (r ++ [y])
 have hrl : (r ++ [y]).length = r.length + 1 := by simp
 have hw1 : IntKind.i64.wrap (((bs (r ++ [y])).size : Int) - 1) = ((r.length : Nat) : Int) := by rw [hz, hrl, wrap_i64 (by omega)]; omega
 refine ReadC.one (a := some ⟨nb, 0, none⟩) (q := 1) (.string (bs (r ++ [y]))) rfl rfl rfl (fun w hw => hw) rfl ?_
 refine wXO ?_
 refine ReadC.one (a := some ⟨nb, 0, none⟩) (q := 1) (.string (bs (r ++ [y]))) rfl rfl rfl (fun w hw => hw) rfl ?_
 refine wXO ?_
 refine BlindW.lenS (x := .tmp 46) (T := 9) (b := bs (r ++ [y])) rfl rfl rfl Tryz.underlying9 rfl ?_
 refine wXO ?_
 refine ReadC.idxS rfl Tryz.underlying9 rfl rfl (by rw [hw1, hz, hrl]; omega) ?_
 rw [hw1, Int.toNat_natCast, show byteAt (bs (r ++ [y])) r.length = (y.toNat : Int) from byteAt_get (by simp)]
 have h61 : ((y.toNat : Int) != 61) = (y != 61) := congrArg not (u8_eq (c := y) (n := 61) (by decide))
 have hy : y = 61 := by simpa using he
 subst hy
 refine wXO ?_
 refine LdN.one (a := some ⟨nb, 0, none⟩) (q := 1) (.string (bs (r ++ [61]))) rfl (fun w hw => hw.2.1) rfl ?_
 refine wX ?_
 refine brd_intro (fun e => ?_) (fun _ => ?_)
 ·rw [eq_of_beq (show (r ++ [61] == ix1) = true from e)] at ho
  exact absurd ho (by decide)
 refine wX ?_
 refine brd_intro (fun e => ?_) (fun _ => ?_)
 ·rw [eq_of_beq (show (r ++ [61] == ix2) = true from e)] at ho
  exact absurd ho (by decide)
 refine wX ?_
 refine LdN.one (a := some ⟨nb, 0, none⟩) (q := 2) (.int .i64 0) rfl (fun w hw => hw.2.1) rfl ?_
 refine wX ?_
 refine call1 (exprs_c hx (l := [q]) hls (tlA a c) (c - 1) htl _ (fun w hw => ⟨hw.1.1, hw.1.2.ls.tl hcap⟩)) ?_
 exact wZ
set_option maxHeartbeats 4000000 in
theorem callx_c {n : Nat} (hx : Hx n) {x : List UInt8} {z : Int} {a : Option Addr} {c : Nat} {k : TP} {l b : List TP} (hme : meB x = true) (ho : opS x = false) (he : x.getLast? ≠ some 61) (hn : z = 0 ∨ z = 1) (hk : V .ex k) (hl : ∀ k ∈ l, V .arg k) (hb : ∀ k ∈ b, V .blk k) (h1 : b.length ≤ 1)
  (hs : (⟨17, x, z, a, k :: (l ++ b), c⟩ : TP).sz ≤ n) (ht : TreeK ⟨17, x, z, a, k :: (l ++ b), c⟩) : Yes 62 ⟨17, x, z, a, k :: (l ++ b), c⟩ := by
 have hin : ∀ p ∈ l ++ b, p.sz < n := fun p hp => by
  have := sz_kid (t := (⟨17, x, z, a, k :: (l ++ b), c⟩ : TP)) (k := p) (List.mem_cons_of_mem _ hp)
  omega
 rcases hn with rfl | rfl
 ·-- the way of each call: x the name, 0 the number, k :: (l ++ b) the kids, l ++ b of them without the first
  refine factC (xs := [.agg #[.int .i64 17, .string (bs x), .int .i64 0, .slice a (k :: (l ++ b)).length c]]) hm Tryz.func62 (by kernel_rfl) rfl rfl ?_
  have hsa : a.isSome = true := kid_some (i := 0) ht rfl
  have hxl : x.length ≤ 1048576 := ht.str
  have htl : LsK (tlA a c) (c - 1) (l ++ b) := ht.ls.tl
  have hcap : (l ++ b).length + 1 ≤ c := ht.cap
  have hlen : (l ++ b).length ≤ 1048576 := by have : (l ++ b).length + 1 ≤ 1048576 := ht.len; omega
  have hlc : (k :: (l ++ b)).length = (l ++ b).length + 1 := rfl
  have hdz : (((k :: (l ++ b)).length : Int) == 0) = false := by rw [hlc]; first | (simp; done) | (simp; omega)
  have hksz : k.sz < n := by have := sz_kid (t := (⟨17, x, 0, a, k :: (l ++ b), c⟩ : TP)) (k := k) (List.mem_cons_self ..); omega
  (conv => whnf)
  refine BoxN.known [.int .i64 17, .string (bs x), .int .i64 0, .slice a (k :: (l ++ b)).length c] rfl fun nb => ?_
  refine wX ?_
  refine LdN.one (a := some ⟨nb, 0, none⟩) (q := 3) (.slice a (k :: (l ++ b)).length c) rfl (fun w hw => hw.2.1) rfl ?_
  refine wX ?_
  rw [hdz]
  refine wX ?_
  refine LdN.one (a := some ⟨nb, 0, none⟩) (q := 3) (.slice a (k :: (l ++ b)).length c) rfl (fun w hw => hw.2.1) rfl ?_
  refine wX ?_
  refine Nd.mk ⟨hsa, by decide, by omega⟩ ?_
  refine wX ?_
  refine LdN.agg (a := a) (q := 0) (nodeC k) rfl (fun w hw => hw.1.2.row) rfl (fun j hj => nodesC_get (k :: (l ++ b)) 0 j hj rfl) ?_
  refine wX ?_
  refine call1 (expr_c hx hksz (ht.kid (List.mem_cons_self ..)) hk _ (fun w hw => ⟨hw.1.1, hw.1.2.kid (List.mem_cons_self ..)⟩)) ?_
  refine wX ?_
  refine LdN.one (a := some ⟨nb, 0, none⟩) (q := 1) (.string (bs x)) rfl (fun w hw => hw.2.1) rfl ?_
  refine wX ?_
  refine call1 (IsMethod_c x (by omega) _ (fun w hw => hw.1.1)) ?_
  rw [show (opL.contains x || inB x || setB x) = true from hme]
  refine wX ?_
  refine LdN.one (a := some ⟨nb, 0, none⟩) (q := 2) (.int .i64 0) rfl (fun w hw => hw.2.1) rfl ?_
  refine wX ?_
  refine LdN.one (a := some ⟨nb, 0, none⟩) (q := 2) (.int .i64 0) rfl (fun w hw => hw.2.1) rfl ?_
  refine wX ?_
  refine LdN.one (a := some ⟨nb, 0, none⟩) (q := 3) (.slice a (k :: (l ++ b)).length c) rfl (fun w hw => hw.2.1) rfl ?_
  refine wX ?_
  refine ReadW.slc_lo (e := 25) (sz := 4) 1 (l ++ b).length (tlA a c) rfl Tryz.underlying23 rfl rfl rfl rfl ⟨rfl, by omega, by omega⟩ (by omega) rfl ?_
  ((conv => whnf); (repeat ((first | refine VrN.keep ?_ | refine BoxN.own ?_ | refine RwN.own ?_); (conv => whnf))))
  refine DrawN.planC (fun w => SlAt (some ⟨nb, 0, none⟩) 4 [.int .i64 17, .string (bs x), .int .i64 0, .slice a (k :: (l ++ b)).length c] w) [1] [(2, 1), (0, 0), (3, 0), (4, 2), (5, 2), (6, 2), (7, 1), (8, 2), (9, 1), (10, 2), (11, 2), (12, 1), (13, 2), (14, 2)] [] (by decide +kernel) (fun w hw => hw.2.1) ?_
  refine wXO ?_
  refine ReadC.one (a := some ⟨nb, 0, none⟩) (q := 1) (.string (bs x)) rfl rfl rfl (fun w hw => hw) rfl ?_
  refine wXO ?_
  refine SpecF.call Operators_c (fun w hw => hw.1.1) fun v G hR => ?_
  obtain ⟨ob, rfl, hG⟩ := hR
  refine wXO ?_
  refine call1 (Contains_c (some ⟨ob, 0, none⟩) opL 16 x (fun _ => rfl) (by decide) _ (fun w hw => hG w hw.2.2.1)) ?_
  rw [show opL.contains x = false from ho]
  refine wXO ?_
  obtain ⟨y, r, rfl⟩ : ∃ y r, x = r ++ [y] := by
   rcases List.eq_nil_or_concat x with e | ⟨r, y, e⟩
   ·rw [e] at hme; exact absurd hme (by decide)
   ·exact ⟨y, r, by rw [e, List.concat_eq_append]⟩
  have hz := bs_size (r ++ [y])
  have hrl : (r ++ [y]).length = r.length + 1 := by simp
  have hw1 : IntKind.i64.wrap (((bs (r ++ [y])).size : Int) - 1) = ((r.length : Nat) : Int) := by rw [hz, hrl, wrap_i64 (by omega)]; omega
  refine ReadC.one (a := some ⟨nb, 0, none⟩) (q := 1) (.string (bs (r ++ [y]))) rfl rfl rfl (fun w hw => hw) rfl ?_
  refine wXO ?_
  refine ReadC.one (a := some ⟨nb, 0, none⟩) (q := 1) (.string (bs (r ++ [y]))) rfl rfl rfl (fun w hw => hw) rfl ?_
  refine wXO ?_
  refine BlindW.lenS (x := .tmp 46) (T := 9) (b := bs (r ++ [y])) rfl rfl rfl Tryz.underlying9 rfl ?_
  refine wXO ?_
  refine ReadC.idxS rfl Tryz.underlying9 rfl rfl (by rw [hw1, hz, hrl]; omega) ?_
  rw [hw1, Int.toNat_natCast, show byteAt (bs (r ++ [y])) r.length = (y.toNat : Int) from byteAt_get (by simp)]
  have h61 : ((y.toNat : Int) != 61) = (y != 61) := congrArg not (u8_eq (c := y) (n := 61) (by decide))
  have hy : (y != 61) = true := by
   have : y ≠ 61 := fun h => he (by rw [h]; simp)
   simpa using this
  refine wXO ?_
  rw [h61, hy]
  refine wX ?_
  refine call1 (called_c hx (l := l) (b := b) (fun p hp => ⟨hin p (by simp [hp]), hl p hp⟩) (fun p hp => ⟨hin p (by simp [hp]), hb p hp⟩) h1 (tlA a c) (c - 1) htl _ (fun w hw => ⟨hw.1.1, hw.1.2.ls.tl hcap⟩)) ?_
  exact wZ
 ·-- the way of each call: x the name, 1 the number, k :: (l ++ b) the kids, l ++ b of them without the first
  refine factC (xs := [.agg #[.int .i64 17, .string (bs x), .int .i64 1, .slice a (k :: (l ++ b)).length c]]) hm Tryz.func62 (by kernel_rfl) rfl rfl ?_
  have hsa : a.isSome = true := kid_some (i := 0) ht rfl
  have hxl : x.length ≤ 1048576 := ht.str
  have htl : LsK (tlA a c) (c - 1) (l ++ b) := ht.ls.tl
  have hcap : (l ++ b).length + 1 ≤ c := ht.cap
  have hlen : (l ++ b).length ≤ 1048576 := by have : (l ++ b).length + 1 ≤ 1048576 := ht.len; omega
  have hlc : (k :: (l ++ b)).length = (l ++ b).length + 1 := rfl
  have hdz : (((k :: (l ++ b)).length : Int) == 0) = false := by rw [hlc]; first | (simp; done) | (simp; omega)
  have hksz : k.sz < n := by have := sz_kid (t := (⟨17, x, 1, a, k :: (l ++ b), c⟩ : TP)) (k := k) (List.mem_cons_self ..); omega
  (conv => whnf)
  refine BoxN.known [.int .i64 17, .string (bs x), .int .i64 1, .slice a (k :: (l ++ b)).length c] rfl fun nb => ?_
  refine wX ?_
  refine LdN.one (a := some ⟨nb, 0, none⟩) (q := 3) (.slice a (k :: (l ++ b)).length c) rfl (fun w hw => hw.2.1) rfl ?_
  refine wX ?_
  rw [hdz]
  refine wX ?_
  refine LdN.one (a := some ⟨nb, 0, none⟩) (q := 3) (.slice a (k :: (l ++ b)).length c) rfl (fun w hw => hw.2.1) rfl ?_
  refine wX ?_
  refine Nd.mk ⟨hsa, by decide, by omega⟩ ?_
  refine wX ?_
  refine LdN.agg (a := a) (q := 0) (nodeC k) rfl (fun w hw => hw.1.2.row) rfl (fun j hj => nodesC_get (k :: (l ++ b)) 0 j hj rfl) ?_
  refine wX ?_
  refine call1 (expr_c hx hksz (ht.kid (List.mem_cons_self ..)) hk _ (fun w hw => ⟨hw.1.1, hw.1.2.kid (List.mem_cons_self ..)⟩)) ?_
  refine wX ?_
  refine LdN.one (a := some ⟨nb, 0, none⟩) (q := 1) (.string (bs x)) rfl (fun w hw => hw.2.1) rfl ?_
  refine wX ?_
  refine call1 (IsMethod_c x (by omega) _ (fun w hw => hw.1.1)) ?_
  rw [show (opL.contains x || inB x || setB x) = true from hme]
  refine wX ?_
  refine LdN.one (a := some ⟨nb, 0, none⟩) (q := 2) (.int .i64 1) rfl (fun w hw => hw.2.1) rfl ?_
  refine wX ?_
  refine LdN.one (a := some ⟨nb, 0, none⟩) (q := 2) (.int .i64 1) rfl (fun w hw => hw.2.1) rfl ?_
  refine wX ?_
  refine LdN.one (a := some ⟨nb, 0, none⟩) (q := 3) (.slice a (k :: (l ++ b)).length c) rfl (fun w hw => hw.2.1) rfl ?_
  refine wX ?_
  refine ReadW.slc_lo (e := 25) (sz := 4) 1 (l ++ b).length (tlA a c) rfl Tryz.underlying23 rfl rfl rfl rfl ⟨rfl, by omega, by omega⟩ (by omega) rfl ?_
  ((conv => whnf); (repeat ((first | refine VrN.keep ?_ | refine BoxN.own ?_ | refine RwN.own ?_); (conv => whnf))))
  refine DrawN.planC (fun w => SlAt (some ⟨nb, 0, none⟩) 4 [.int .i64 17, .string (bs x), .int .i64 1, .slice a (k :: (l ++ b)).length c] w) [1] [(2, 1), (0, 0), (3, 0), (4, 2), (5, 2), (6, 2), (7, 1), (8, 2), (9, 1), (10, 2), (11, 2), (12, 1), (13, 2), (14, 2)] [] (by decide +kernel) (fun w hw => hw.2.1) ?_
  refine wXO ?_
  refine ReadC.one (a := some ⟨nb, 0, none⟩) (q := 1) (.string (bs x)) rfl rfl rfl (fun w hw => hw) rfl ?_
  refine wXO ?_
  refine SpecF.call Operators_c (fun w hw => hw.1.1) fun v G hR => ?_
  obtain ⟨ob, rfl, hG⟩ := hR
  refine wXO ?_
  refine call1 (Contains_c (some ⟨ob, 0, none⟩) opL 16 x (fun _ => rfl) (by decide) _ (fun w hw => hG w hw.2.2.1)) ?_
  rw [show opL.contains x = false from ho]
  refine wXO ?_
  obtain ⟨y, r, rfl⟩ : ∃ y r, x = r ++ [y] := by
   rcases List.eq_nil_or_concat x with e | ⟨r, y, e⟩
   ·rw [e] at hme; exact absurd hme (by decide)
   ·exact ⟨y, r, by rw [e, List.concat_eq_append]⟩
  have hz := bs_size (r ++ [y])
  have hrl : (r ++ [y]).length = r.length + 1 := by simp
  have hw1 : IntKind.i64.wrap (((bs (r ++ [y])).size : Int) - 1) = ((r.length : Nat) : Int) := by rw [hz, hrl, wrap_i64 (by omega)]; omega
  refine ReadC.one (a := some ⟨nb, 0, none⟩) (q := 1) (.string (bs (r ++ [y]))) rfl rfl rfl (fun w hw => hw) rfl ?_
  refine wXO ?_
  refine ReadC.one (a := some ⟨nb, 0, none⟩) (q := 1) (.string (bs (r ++ [y]))) rfl rfl rfl (fun w hw => hw) rfl ?_
  refine wXO ?_
  refine BlindW.lenS (x := .tmp 46) (T := 9) (b := bs (r ++ [y])) rfl rfl rfl Tryz.underlying9 rfl ?_
  refine wXO ?_
  refine ReadC.idxS rfl Tryz.underlying9 rfl rfl (by rw [hw1, hz, hrl]; omega) ?_
  rw [hw1, Int.toNat_natCast, show byteAt (bs (r ++ [y])) r.length = (y.toNat : Int) from byteAt_get (by simp)]
  have h61 : ((y.toNat : Int) != 61) = (y != 61) := congrArg not (u8_eq (c := y) (n := 61) (by decide))
  have hy : (y != 61) = true := by
   have : y ≠ 61 := fun h => he (by rw [h]; simp)
   simpa using this
  refine wXO ?_
  rw [h61, hy]
  refine wX ?_
  refine call1 (called_c hx (l := l) (b := b) (fun p hp => ⟨hin p (by simp [hp]), hl p hp⟩) (fun p hp => ⟨hin p (by simp [hp]), hb p hp⟩) h1 (tlA a c) (c - 1) htl _ (fun w hw => ⟨hw.1.1, hw.1.2.ls.tl hcap⟩)) ?_
  exact wZ
end Go.Proofs.YtpikpjlhdkkigaaGreatDoor
namespace Go.Proofs.YtpikpjlhdkkigaaGreatDoor
open Go.AX Go.RowKit Go.Tree Go.Scan
set_option maxRecDepth 20000
def intC (l : List Int) : List Value := l.map fun x => .int .i64 x
theorem intC_get {l : List Int} {i : Nat} {x : Int} (h : l[i]? = some x) : (intC l)[i]? = some (.int .i64 x) := by
 unfold intC
 rw [List.getElem?_map, h]
 rfl
theorem IndexI_c (a : Option Addr) (l : List Int) (cap : Nat) (z : Int) (ha : l ≠ [] → a.isSome = true) (hl : l.length ≤ 1000000) :
  ∀ H, (∀ w, Facts H w → SlAt a l.length (intC l) w) → SpecH Tryz.prog 74 (pvs [.slice a l.length cap, .int .i64 z]) H (RetR (fun v => ∃ n : Int, v = .int .i64 n ∧ (0 ≤ n ↔ l.contains z = true)) H) := by
 refine factR hm Tryz.func74 (by kernel_rfl) rfl rfl ?_
 refine wX ?_
 refine loopS Nat (fun i => i ≤ l.length ∧ (l.take i).contains z = false) (fun i => mkS Tryz.f74.ntmps 0 [(0, .c (.v (.slice a l.length cap))), (1, .c (.v (.int .i64 z))), (7, .c (.v (.int .i64 (l.length : Int)))), (8, .c (.v (.int .i64 (i : Int))))]) (fun i => l.length - i) rfl (fun _ => rfl) 0 ⟨Nat.zero_le _, by simp⟩ ?_ ?_
 ·exact wKK
 intro i ⟨hi, hno⟩
 refine wX ?_
 refine brd_dec (fun h1 => ?_) (fun h1 => ?_)
 ·obtain ⟨t, ht⟩ : ∃ t, l[i]? = some t := ⟨_, List.getElem?_eq_getElem (by omega)⟩
  have hsa : a.isSome = true := ha (fun h => by rw [h] at ht; cases ht)
  refine wX ?_
  refine Nd.mk ⟨hsa, by omega, by omega⟩ ?_
  refine wX ?_
  refine LdN.one (.int .i64 t) rfl (fun w hw => hw.1) (by show (intC l)[Int.toNat _ * 1]? = _; rw [Int.toNat_natCast, Nat.mul_one]; exact intC_get ht) ?_
  refine wX ?_
  refine brd_eq (fun h2 => ?_) (fun h2 => ?_)
  ·refine wX ?_
   refine ⟨_, rfl, (i : Int), rfl, ⟨fun _ => ?_, fun _ => by omega⟩⟩
   rw [h2]
   exact List.contains_iff_mem.2 (List.mem_of_getElem? ht)
  ·refine wX ?_
   refine ⟨i + 1, ⟨by omega, ?_⟩, by omega, ?_, wHH⟩
   ·rw [List.take_add_one, ht]
    simp only [List.contains_append, hno, Bool.false_or]
    simp
    exact h2
   ·exact wKK
 ·have hie : i = l.length := by omega
  subst hie
  rw [List.take_length] at hno
  refine wX ?_
  refine ⟨_, rfl, -1, rfl, ⟨fun h => absurd h (by decide), fun h => by rw [hno] at h; cases h⟩⟩
theorem ContainsI_c (a : Option Addr) (l : List Int) (cap : Nat) (z : Int) (ha : l ≠ [] → a.isSome = true) (hl : l.length ≤ 1000000) :
  ∀ H, (∀ w, Facts H w → SlAt a l.length (intC l) w) → SpecH Tryz.prog 49 (pvs [.slice a l.length cap, .int .i64 z]) H (Ret (.bool (l.contains z)) H) := by
 refine factC hm Tryz.func49 (by kernel_rfl) rfl rfl ?_
 refine wX ?_
 refine callR (IndexI_c a l cap z ha hl _ (fun w hw => hw.1)) fun v hv => ?_
 obtain ⟨n, rfl, hn⟩ := hv
 refine wX ?_
 refine ret_b ?_
 rw [← hn]
 simp
set_option maxHeartbeats 4000000 in
theorem dstr1_c {n : Nat} (hx : Hx n) {s : TP} (hs : s.sz < n) (hv : V .ex s) (ho : s.op = 26) : YesL 124 [s] := fun a cap hk => by
 refine factC hm Tryz.func124 (by kernel_rfl) rfl rfl ?_
 have hsa : a.isSome = true := isT (i := 0) hk.nil rfl
 refine wX ?_
 refine LoopN.unroll 2 ?_
 refine wX ?_
 refine Nd.mk ⟨hsa, by decide +kernel, by show _ < ((1 : Nat) : Int); decide +kernel⟩ ?_
 refine wX ?_
 refine LdN.agg (a := a) (q := 0) (nodeC s) rfl (fun w hw => hw.1.2.1) rfl (fun j hj => nodesC_get [s] 0 j hj rfl) ?_
 refine wX ?_
 refine brd_eq (fun _ => ?_) (fun h => absurd ho h)
 refine wX ?_
 refine call1 (exprs_c hx (l := [s]) (fun k hk => by rw [List.mem_singleton.1 hk]; exact ⟨hs, hv⟩) a cap hk _ (fun w hw => hw.1)) ?_
 exact wZ
set_option maxHeartbeats 4000000 in
theorem dstr3_c {n : Nat} (hx : Hx n) {s : TP} {x y : List UInt8} {ax ay : Option Addr} {cx cy : Nat} (hl : ∀ k ∈ [(⟨5, x, 0, ax, [], cx⟩ : TP), s, ⟨5, y, 0, ay, [], cy⟩], k.sz < n) (hv : V .ex s) (ho : s.op = 26) (hxx : x ≠ [] ∧ x.length ≤ 2000) (hyy : y ≠ [] ∧ y.length ≤ 2000) :
  YesL 124 [(⟨5, x, 0, ax, [], cx⟩ : TP), s, ⟨5, y, 0, ay, [], cy⟩] := fun a cap hk => by
 refine factC hm Tryz.func124 (by kernel_rfl) rfl rfl ?_
 have hsa : a.isSome = true := isT (i := 0) hk.nil rfl
 refine wX ?_
 refine LoopN.unroll 4 ?_
 refine wX ?_
 refine Nd.mk ⟨hsa, by decide +kernel, by show _ < ((3 : Nat) : Int); decide +kernel⟩ ?_
 refine wX ?_
 refine LdN.agg (a := a) (q := 0) [.int .i64 5, .string (bs x), .int .i64 0, .slice ax 0 cx] rfl (fun w hw => hw.1.2.1) rfl (fun j hj => nodesC_get [(⟨5, x, 0, ax, [], cx⟩ : TP), s, ⟨5, y, 0, ay, [], cy⟩] 0 j hj rfl) ?_
 refine wX ?_
 refine brd_intro (fun h2 => absurd (eq_of_beq (show (x == []) = true from h2)) hxx.1) (fun _ => ?_)
 refine wX ?_
 refine Nd.mk ⟨hsa, by decide +kernel, by show _ < ((3 : Nat) : Int); decide +kernel⟩ ?_
 refine wX ?_
 refine LdN.agg (a := a) (q := 4) (nodeC s) rfl (fun w hw => hw.1.2.1) rfl (fun j hj => nodesC_get [(⟨5, x, 0, ax, [], cx⟩ : TP), s, ⟨5, y, 0, ay, [], cy⟩] 1 j hj rfl) ?_
 refine wX ?_
 refine brd_eq (fun _ => ?_) (fun h => absurd ho h)
 refine wX ?_
 refine Nd.mk ⟨hsa, by decide +kernel, by show _ < ((3 : Nat) : Int); decide +kernel⟩ ?_
 refine wX ?_
 refine LdN.agg (a := a) (q := 8) [.int .i64 5, .string (bs y), .int .i64 0, .slice ay 0 cy] rfl (fun w hw => hw.1.2.1) rfl (fun j hj => nodesC_get [(⟨5, x, 0, ax, [], cx⟩ : TP), s, ⟨5, y, 0, ay, [], cy⟩] 2 j hj rfl) ?_
 refine wX ?_
 refine brd_intro (fun h2 => absurd (eq_of_beq (show (y == []) = true from h2)) hyy.1) (fun _ => ?_)
 refine wX ?_
 refine Nd.mk ⟨hsa, by decide +kernel, by show _ < ((3 : Nat) : Int); decide +kernel⟩ ?_
 refine wX ?_
 refine LdN.fld (a := a) (q := 4) (.int .i64 s.op) rfl (fun w hw => hw.1.2.1) rfl ?_
 rw [ho]
 refine wX ?_
 refine call1 (exprs_c hx (l := [(⟨5, x, 0, ax, [], cx⟩ : TP), s, ⟨5, y, 0, ay, [], cy⟩]) (fun k hk => ⟨hl k hk, ?_⟩) a cap hk _ (fun w hw => hw.1)) ?_
 ·simp only [List.mem_cons, List.not_mem_nil, or_false] at hk
  rcases hk with rfl | rfl | rfl
  ·exact .str hxx.2
  ·exact hv
  ·exact .str hyy.2
 exact wZ
end Go.Proofs.YtpikpjlhdkkigaaGreatDoor
namespace Go.AX
theorem ownCJ {P : Program} (hm : P.follows .mixedOrders = true) {f : FuncId} {fn : Func} {c : Code} (hf : P.funcs[f]? = some fn) (hn : (fn.name == "runtime.NumGoroutine") = false) (hb : fn.body = some c)
  {args : List AV} {H : List Ent} (hl : Nat.ble args.length fn.ntmps = true) {ι : Type} {inv : ι → Prop} {val : ι → Value} {G : ι → List Ent} (hok : ∀ i, inv i → okH (G i).length (G i)) (hl2 : ∀ i, inv i → H.length ≤ (G i).length)
  (h : initK fn.ntmps args fun s => execJ P c s H (endK P fn.results.toList fun out H' => ∃ i, inv i ∧ out = .val (.c (.v (val i))) ∧ wkH H' (G i))) : SpecH P f args H (RetG inv val G) :=
 SpecH.wkG hok hl2 (specJ_of_exec hm hf hn hb hl h)
end Go.AX
namespace Go.Proofs.YtpikpjlhdkkigaaGreatDoor
open Go.AX Go.RowKit Go.Tree Go.Scan
set_option maxRecDepth 20000
def WalkC (t : TP) : Prop := TreeK t → ∀ (A : World → Prop) (_ : ∀ w, A w → TreeF w t) (rb : Nat) (st : RvS) (m : Nat) (ch : List Nat) (o : Option Nat), RvOk st m → m + 2 * t.sz ≤ 100000 → ChP st.sc ch o → ch ≠ [] →
 SpecH Tryz.prog 42 (pvs [.pointer (some ⟨rb, 0, none⟩), nodeV t, ptrO o]) (rvE A rb st)
  (RetG (ι := RvS) (fun st' => Went st st' (m + 2 * t.sz) (wk t ch (nmS st.sc))) (fun _ => .tuple #[]) fun st' => rvE A rb st')
abbrev isCls (t : TP) : Prop := t.op = 32 ∨ t.op = 33 ∨ t.op = 34
abbrev isRes (t : TP) : Prop := t.op = 41 ∧ t.name ≠ []
structure HdI where
 st : RvS
 ch : List Nat
 o : Option Nat
structure Head (t : TP) (st : RvS) (m : Nat) (ch : List Nat) (o : Option Nat) (i : HdI) : Prop where
 ok : RvOk i.st (m + 1)
 g : ScG st.sc i.st.sc
 chp : ChP i.st.sc i.ch i.o
 ne : i.ch ≠ []
 same : isCls t ∨ isRes t → i = ⟨st, ch, o⟩
 res : ¬ isCls t → ¬ isRes t → ∃ pls un, i.st.pl = st.pl ++ pls ∧ i.st.un = (st.un || un) ∧ wk t ch (nmS st.sc) = ⟨(wks t.kids i.ch (nmS i.st.sc)).nm, pls ++ (wks t.kids i.ch (nmS i.st.sc)).pl, un || (wks t.kids i.ch (nmS i.st.sc)).un⟩
theorem wk_eq (t : TP) (ch : List Nat) (nm : Nm) : wk t ch nm =
  if t.op = 10 then ⟨(wks t.kids ch nm).nm, (fnd nm ch t.name).getD (0, 0) :: (wks t.kids ch nm).pl, (fnd nm ch t.name).isNone || (wks t.kids ch nm).un⟩
  else if t.op = 11 ∨ t.op = 49 ∨ (t.op = 52 ∧ t.name ≠ []) then (wks t.kids ch (sets nm ch t.name).1).pre (sets nm ch t.name).2
  else if t.op = 54 ∧ t.name ≠ [] then (wks t.kids ch (decl nm (ch.headD 0) t.name).1).pre (decl nm (ch.headD 0) t.name).2
  else if t.op = 35 then wks t.kids [nm.length] (nm ++ [[]])
  else if t.op = 24 ∨ t.op = 25 then wks t.kids (nm.length :: ch) (nm ++ [[]])
  else if isRes t then (wkr t.kids t.name ch nm).1.pre (wkr t.kids t.name ch nm).2
  else if isCls t then wkc t.kids ch nm
  else wks t.kids ch nm := by
 cases t
 rfl
theorem nil_iff {l : List UInt8} {b : Bool} (h : ((bs l).data.toList == ((⟨#[]⟩ : ByteArray)).data.toList) = b) : b = true ↔ l = [] := by
 subst h
 cases l with
 | nil => simp [bs]
 | cons a l => simp [bs]
theorem no_mode {t : TP} (h : t.op ≠ 32 ∧ t.op ≠ 33 ∧ t.op ≠ 34 ∧ t.op ≠ 41) : ¬ (isCls t ∨ isRes t) := by
 rintro ((h1 | h1 | h1) | ⟨h1, _⟩)
 ·exact h.1 h1
 ·exact h.2.1 h1
 ·exact h.2.2.1 h1
 ·exact h.2.2.2 h1
theorem Went.cat {a b c : RvS} {m n : Nat} {r q : WR} (h : Went a b m r) (k : Went b c n q) : Went a c n (r.cat q) :=
 ⟨k.ok, h.g.trans k.g, k.nm, by rw [k.pl, h.pl, List.append_assoc]; rfl, by rw [k.un, h.un, Bool.or_assoc]; rfl⟩
theorem WR.cat_nil (r : WR) (n : Nm) (q : WR) : (r.cat ⟨n, [], false⟩).cat q = r.cat q := by simp [WR.cat]
theorem Went.mono {a b : RvS} {m n : Nat} {r : WR} (h : Went a b m r) (hl : m ≤ n) (hn : n ≤ 100000) : Went a b n r := ⟨h.ok.mono hl hn, h.g, h.nm, h.pl, h.un⟩
theorem Went.refl {a : RvS} {m : Nat} (ok : RvOk a m) : Went a a m ⟨nmS a.sc, [], false⟩ := ⟨ok, ScG.refl _, rfl, (List.append_nil _).symm, (Bool.or_false _).symm⟩
theorem wks_snoc {l : List TP} {k : TP} (ch : List Nat) (nm : Nm) : wks (l ++ [k]) ch nm = (wks l ch nm).cat (wk k ch (wks l ch nm).nm) := by
 rw [wks_app, wks, wks]
 simp [WR.cat]
structure LpI where
 i : Nat
 st : RvS
 v : Value
def LpInv (t : TP) (st0 st1 : RvS) (m0 : Nat) (m : Nat) (ch1 : List Nat) (o1 : Option Nat) (fin : WR) (p : LpI) : Prop :=
 p.i ≤ t.kids.length ∧ (p.i < t.kids.length → p.v = ptrO o1 ∧ Went st1 p.st (m + 1 + 2 * szs (t.kids.take p.i)) (wks (t.kids.take p.i) ch1 (nmS st1.sc))) ∧ (p.i = t.kids.length → Went st0 p.st m0 fin)
theorem Went.step {kids : List TP} {i m : Nat} {k : TP} {st1 st2 st3 : RvS} {ch : List Nat} {nm : Nm} (hk : kids[i]? = some k) (wd : Went st1 st2 (m + 2 * szs (kids.take i)) (wks (kids.take i) ch nm))
  (w2 : Went st2 st3 (m + 2 * szs (kids.take i) + 2 * k.sz) (wk k ch (nmS st2.sc))) : Went st1 st3 (m + 2 * szs (kids.take (i + 1))) (wks (kids.take (i + 1)) ch nm) := by
 have h := wd.cat w2
 rw [wd.nm, ← wks_snoc, ← take_snoc hk] at h
 rw [take_szs hk, Nat.mul_add, ← Nat.add_assoc]
 exact h
set_option maxHeartbeats 4000000 in
theorem walk_c : ∀ t, WalkC t := by
 refine TP.ind fun t ih ht A hA rb st m ch o ok hm2 hch hne => ?_
 refine ownCJ hm Tryz.func42 (by kernel_rfl) rfl rfl (fun _ _ => okHB_eq rfl) (fun _ _ => Nat.le_of_ble_eq_true rfl) ?_
 have hsz := sz_eq t
 refine SeqN.plain ?_
 refine wX ?_
 refine SeqN.plain ?_
 refine wX ?_
 refine SeqN.join HdI (fun i => Head t st m ch o i) (fun i => mkS Tryz.f42.ntmps 0 [(0, .c (.v (.pointer (some ⟨rb, 0, none⟩)))), (2, .c (.v (ptrO o))), (4, .c (.lp 6 0)), (6, .c (.v (ptrO i.o)))])
  (fun i => rvE A rb i.st ++ [.blk 25 (vs (nodeC t))]) (fun _ _ => Nat.le_of_ble_eq_true rfl) (fun _ _ => rfl) (fun _ _ => okHB_eq rfl) ?_ ?_
 ·refine wXS ?_
  refine brd_eq (fun h10 => ?_) (fun h10 => ?_)
  ·refine wXS ?_
   refine call1 (find_c st.sc ok.sc ch o hch t.name _ (fun w hw => scF_of ok.sc hw.2.2.2.2.1 hw.2.2.2.2.2.1)) ?_
   have hpm := ok.pm
   obtain ⟨sc, pl, un, sa, scap, pa, pcap⟩ := st
   obtain ⟨p, k, hkv, hk⟩ : ∃ (p : Pl) (k : Bool), fndV (fnd (nmS sc) ch t.name) = .tuple #[.agg #[.int .i64 (p.1 : Int), .int .i64 (p.2 : Int)], .bool k] ∧ ((fnd (nmS sc) ch t.name).getD (0, 0) = p ∧ (fnd (nmS sc) ch t.name).isNone = !k) := by
    cases fnd (nmS sc) ch t.name with
    | none => exact ⟨(0, 0), false, rfl, rfl, rfl⟩
    | some p => exact ⟨p, true, rfl, rfl, rfl⟩
   rw [show fndV (fnd (nmS { sc := sc, pl := pl, un := un, sa := sa, scap := scap, pa := pa, pcap := pcap : RvS }.sc) ch t.name) = _ from hkv]
   cases un with
   | true =>
    refine wXS ?_
    refine LdN.one (a := some ⟨rb, 0, none⟩) (q := 2) (.bool true) rfl (fun w hw => hw.2.1) rfl ?_
    refine wXS ?_
    refine EffW.appTo (i := 1) (q := 2) (ys := [_]) (rvC ⟨sc, pl, true || !k, sa, scap, pa, pcap⟩) 3 rfl rfl rfl rfl rfl rfl rfl (Nat.le_of_ble_eq_true rfl) rfl rfl ?_
    refine wXS ?_
    refine DrawN.plan [0, 1] [(2, 1), (3, 1), (4, 1), (5, 1), (6, 0)] [(7, 0), (8, 0), (9, 0), (10, 0)] (by decide +kernel) ?_
    (conv => whnf)
    refine LdN.one (a := some ⟨rb, 0, none⟩) (q := 1) (.slice (at0 ((⟨sc, pl, true || !k, sa, scap, pa, pcap⟩ : RvS)).pa) ((⟨sc, pl, true || !k, sa, scap, pa, pcap⟩ : RvS)).pl.length ((⟨sc, pl, true || !k, sa, scap, pa, pcap⟩ : RvS)).pcap) rfl (fun w hw => hw.2.1) rfl ?_
    refine wX ?_
    refine Nd.mk ⟨Nat.le_refl 1, rfl, rfl⟩ ?_
    (conv => whnf)
    refine AppN.grow 3 (plsC ((⟨sc, pl, true || !k, sa, scap, pa, pcap⟩ : RvS)).pl) (plC p) rfl rfl ⟨Nat.le_refl 1, ⟨by show (((⟨sc, pl, true || !k, sa, scap, pa, pcap⟩ : RvS)).pl.length + 1) * 16 ≤ _; have h : ((⟨sc, pl, true || !k, sa, scap, pa, pcap⟩ : RvS)).pl.length ≤ m := hpm; omega, by have h : ((⟨sc, pl, true || !k, sa, scap, pa, pcap⟩ : RvS)).pl.length ≤ m := hpm; omega⟩, by decide⟩ fun sb' c' g1 g2 => ?_
    refine wX ?_
    refine EffW.appTo (i := 1) (q := 1) (ys := [_]) (rvC (placed (⟨sc, pl, true || !k, sa, scap, pa, pcap⟩ : RvS) p sb' c')) 3 rfl rfl rfl rfl rfl rfl rfl (Nat.le_of_ble_eq_true rfl) (by simp [rvC, placed, at0]) rfl ?_
    refine wX ?_
    have e1 : plsC ((⟨sc, pl, true || !k, sa, scap, pa, pcap⟩ : RvS)).pl ++ plC p = plsC (placed (⟨sc, pl, true || !k, sa, scap, pa, pcap⟩ : RvS) p sb' c').pl := by simp [plsC, placed]
    have e2 : ((⟨sc, pl, true || !k, sa, scap, pa, pcap⟩ : RvS)).pl.length + 1 = (placed (⟨sc, pl, true || !k, sa, scap, pa, pcap⟩ : RvS) p sb' c').pl.length := by simp [placed]
    rw [e1, e2]
    refine ⟨⟨placed ⟨sc, pl, true || !k, sa, scap, pa, pcap⟩ p sb' c', ch, o⟩, ⟨RvOk.placed (st := ⟨sc, pl, true || !k, sa, scap, pa, pcap⟩) ⟨ok.sc, ok.sl, ok.sn, ok.sm, ok.pl, ok.pn, ok.pm, ok.nl, ok.top⟩ (by omega) g1, ScG.refl _, hch, hne, fun h => absurd h (by omega), fun _ _ => ⟨[p], !k, rfl, rfl, ?_⟩⟩, ?_, ?_⟩
    ·rw [wk_eq, if_pos h10]
     show (⟨_, ((fnd (nmS sc) ch t.name).getD (0, 0)) :: _, (fnd (nmS sc) ch t.name).isNone || _⟩ : WR) = _
     rw [hk.1, hk.2]
     rfl
    ·exact wKK
    ·exact ⟨wkE_refl _, wkE_refl _, wkE_refl _, wkE_refl _, wkE_refl _, wkE_refl _, wkE_refl _, wkH_nil _⟩
   | false =>
    refine wXS ?_
    refine LdN.one (a := some ⟨rb, 0, none⟩) (q := 2) (.bool false) rfl (fun w hw => hw.2.1) rfl ?_
    refine wXS ?_
    refine EffW.appTo (i := 1) (q := 2) (ys := [_]) (rvC ⟨sc, pl, false || !k, sa, scap, pa, pcap⟩) 3 rfl rfl rfl rfl rfl rfl rfl (Nat.le_of_ble_eq_true rfl) rfl rfl ?_
    refine wXS ?_
    refine DrawN.plan [0, 1] [(2, 1), (3, 1), (4, 1), (5, 1), (6, 0)] [(7, 0), (8, 0), (9, 0), (10, 0)] (by decide +kernel) ?_
    (conv => whnf)
    refine LdN.one (a := some ⟨rb, 0, none⟩) (q := 1) (.slice (at0 ((⟨sc, pl, false || !k, sa, scap, pa, pcap⟩ : RvS)).pa) ((⟨sc, pl, false || !k, sa, scap, pa, pcap⟩ : RvS)).pl.length ((⟨sc, pl, false || !k, sa, scap, pa, pcap⟩ : RvS)).pcap) rfl (fun w hw => hw.2.1) rfl ?_
    refine wX ?_
    refine Nd.mk ⟨Nat.le_refl 1, rfl, rfl⟩ ?_
    (conv => whnf)
    refine AppN.grow 3 (plsC ((⟨sc, pl, false || !k, sa, scap, pa, pcap⟩ : RvS)).pl) (plC p) rfl rfl ⟨Nat.le_refl 1, ⟨by show (((⟨sc, pl, false || !k, sa, scap, pa, pcap⟩ : RvS)).pl.length + 1) * 16 ≤ _; have h : ((⟨sc, pl, false || !k, sa, scap, pa, pcap⟩ : RvS)).pl.length ≤ m := hpm; omega, by have h : ((⟨sc, pl, false || !k, sa, scap, pa, pcap⟩ : RvS)).pl.length ≤ m := hpm; omega⟩, by decide⟩ fun sb' c' g1 g2 => ?_
    refine wX ?_
    refine EffW.appTo (i := 1) (q := 1) (ys := [_]) (rvC (placed (⟨sc, pl, false || !k, sa, scap, pa, pcap⟩ : RvS) p sb' c')) 3 rfl rfl rfl rfl rfl rfl rfl (Nat.le_of_ble_eq_true rfl) (by simp [rvC, placed, at0]) rfl ?_
    refine wX ?_
    have e1 : plsC ((⟨sc, pl, false || !k, sa, scap, pa, pcap⟩ : RvS)).pl ++ plC p = plsC (placed (⟨sc, pl, false || !k, sa, scap, pa, pcap⟩ : RvS) p sb' c').pl := by simp [plsC, placed]
    have e2 : ((⟨sc, pl, false || !k, sa, scap, pa, pcap⟩ : RvS)).pl.length + 1 = (placed (⟨sc, pl, false || !k, sa, scap, pa, pcap⟩ : RvS) p sb' c').pl.length := by simp [placed]
    rw [e1, e2]
    refine ⟨⟨placed ⟨sc, pl, false || !k, sa, scap, pa, pcap⟩ p sb' c', ch, o⟩, ⟨RvOk.placed (st := ⟨sc, pl, false || !k, sa, scap, pa, pcap⟩) ⟨ok.sc, ok.sl, ok.sn, ok.sm, ok.pl, ok.pn, ok.pm, ok.nl, ok.top⟩ (by omega) g1, ScG.refl _, hch, hne, fun h => absurd h (by omega), fun _ _ => ⟨[p], !k, rfl, rfl, ?_⟩⟩, ?_, ?_⟩
    ·rw [wk_eq, if_pos h10]
     show (⟨_, ((fnd (nmS sc) ch t.name).getD (0, 0)) :: _, (fnd (nmS sc) ch t.name).isNone || _⟩ : WR) = _
     rw [hk.1, hk.2]
     rfl
    ·exact wKK
    ·exact ⟨wkE_refl _, wkE_refl _, wkE_refl _, wkE_refl _, wkE_refl _, wkE_refl _, wkE_refl _, wkH_nil _⟩
  ·refine wXS ?_
   refine brd_eq (fun h11 => ?_) (fun h11 => ?_)
   ·refine wXS ?_
    refine callG (declare_c A rb st ok (by omega) ch o hch hne t.name false) [0, 1, 2, 3, 4, 5] rfl ⟨rfl, rfl, rfl, rfl, rfl, rfl, trivial⟩ rfl fun st1 w1 => ?_
    obtain ⟨k1, k2, k3, k4, k5⟩ := w1
    refine wXS ?_
    refine ⟨⟨st1, ch, o⟩, ⟨k1, k2, hch.grow k2, hne, fun h => absurd h (no_mode (by omega)), fun _ _ => ⟨_, _, k4, k5, ?_⟩⟩, ?_, ?_⟩
    ·rw [wk_eq]
     show _ = (⟨(wks t.kids ch (nmS st1.sc)).nm, _, _⟩ : WR)
     rw [k3]
     rw [if_neg h10, if_pos (.inl h11)]; rfl
    ·exact wKK
    ·exact ⟨wkE_refl _, wkE_refl _, wkE_refl _, wkE_refl _, wkE_refl _, wkE_refl _, wkE_refl _, wkH_nil _⟩
   refine wXS ?_
   refine brd_eq (fun h49 => ?_) (fun h49 => ?_)
   ·refine wXS ?_
    refine callG (declare_c A rb st ok (by omega) ch o hch hne t.name false) [0, 1, 2, 3, 4, 5] rfl ⟨rfl, rfl, rfl, rfl, rfl, rfl, trivial⟩ rfl fun st1 w1 => ?_
    obtain ⟨k1, k2, k3, k4, k5⟩ := w1
    refine wXS ?_
    refine ⟨⟨st1, ch, o⟩, ⟨k1, k2, hch.grow k2, hne, fun h => absurd h (no_mode (by omega)), fun _ _ => ⟨_, _, k4, k5, ?_⟩⟩, ?_, ?_⟩
    ·rw [wk_eq]
     show _ = (⟨(wks t.kids ch (nmS st1.sc)).nm, _, _⟩ : WR)
     rw [k3]
     rw [if_neg h10, if_pos (.inr (.inl h49))]; rfl
    ·exact wKK
    ·exact ⟨wkE_refl _, wkE_refl _, wkE_refl _, wkE_refl _, wkE_refl _, wkE_refl _, wkE_refl _, wkH_nil _⟩
   refine wXS ?_
   refine brd_eq (fun h52 => ?_) (fun h52 => ?_)
   ·refine wXS ?_
    refine brd_not (brd_intro (fun hn => ?_) (fun hn => ?_))
    ·have hn' := (nil_iff hn).1 rfl
     refine wXS ?_
     have n2 : ¬ (t.op = 11 ∨ t.op = 49 ∨ t.op = 52 ∧ t.name ≠ []) := fun h => h.elim h11 fun h => h.elim h49 fun h => h.2 hn'
     refine ⟨⟨st, ch, o⟩, ⟨ok.mono (Nat.le_succ _) (by omega), ScG.refl _, hch, hne, fun _ => rfl, fun hc hr => ⟨[], false, (List.append_nil _).symm, (Bool.or_false _).symm, ?_⟩⟩, ?_, ?_⟩
     ·rw [wk_eq]
      show _ = wks t.kids ch (nmS st.sc)
      rw [if_neg h10, if_neg n2, if_neg (by omega), if_neg (by omega), if_neg (by omega), if_neg hr, if_neg hc]
     ·exact wKK
     ·exact ⟨wkE_refl _, wkE_refl _, wkE_refl _, wkE_refl _, wkE_refl _, wkE_refl _, wkE_refl _, wkH_nil _⟩
    ·have hn' : t.name ≠ [] := fun h => by cases (nil_iff hn).2 h
     refine wXS ?_
     refine callG (declare_c A rb st ok (by omega) ch o hch hne t.name false) [0, 1, 2, 3, 4, 5] rfl ⟨rfl, rfl, rfl, rfl, rfl, rfl, trivial⟩ rfl fun st1 w1 => ?_
     obtain ⟨k1, k2, k3, k4, k5⟩ := w1
     refine wXS ?_
     refine ⟨⟨st1, ch, o⟩, ⟨k1, k2, hch.grow k2, hne, fun h => absurd h (no_mode (by omega)), fun _ _ => ⟨_, _, k4, k5, ?_⟩⟩, ?_, ?_⟩
     ·rw [wk_eq]
      show _ = (⟨(wks t.kids ch (nmS st1.sc)).nm, _, _⟩ : WR)
      rw [k3]
      rw [if_neg h10, if_pos (.inr (.inr ⟨h52, hn'⟩))]; rfl
     ·exact wKK
     ·exact ⟨wkE_refl _, wkE_refl _, wkE_refl _, wkE_refl _, wkE_refl _, wkE_refl _, wkE_refl _, wkH_nil _⟩
   refine wXS ?_
   refine brd_eq (fun h54 => ?_) (fun h54 => ?_)
   ·have n2 : ¬ (t.op = 11 ∨ t.op = 49 ∨ t.op = 52 ∧ t.name ≠ []) := by omega
    refine wXS ?_
    refine brd_not (brd_intro (fun hn => ?_) (fun hn => ?_))
    ·have hn' := (nil_iff hn).1 rfl
     refine wXS ?_
     refine ⟨⟨st, ch, o⟩, ⟨ok.mono (Nat.le_succ _) (by omega), ScG.refl _, hch, hne, fun _ => rfl, fun hc hr => ⟨[], false, (List.append_nil _).symm, (Bool.or_false _).symm, ?_⟩⟩, ?_, ?_⟩
     ·rw [wk_eq]
      show _ = wks t.kids ch (nmS st.sc)
      rw [if_neg h10, if_neg n2, if_neg (fun h => h.2 hn'), if_neg (by omega), if_neg (by omega), if_neg hr, if_neg hc]
     ·exact wKK
     ·exact ⟨wkE_refl _, wkE_refl _, wkE_refl _, wkE_refl _, wkE_refl _, wkE_refl _, wkE_refl _, wkH_nil _⟩
    ·have hn' : t.name ≠ [] := fun h => by cases (nil_iff hn).2 h
     refine wXS ?_
     refine callG (declare_c A rb st ok (by omega) ch o hch hne t.name true) [0, 1, 2, 3, 4, 5] rfl ⟨rfl, rfl, rfl, rfl, rfl, rfl, trivial⟩ rfl fun st1 w1 => ?_
     obtain ⟨k1, k2, k3, k4, k5⟩ := w1
     refine wXS ?_
     refine ⟨⟨st1, ch, o⟩, ⟨k1, k2, hch.grow k2, hne, fun h => absurd h (no_mode (by omega)), fun _ _ => ⟨_, _, k4, k5, ?_⟩⟩, ?_, ?_⟩
     ·rw [wk_eq]
      show _ = (⟨(wks t.kids ch (nmS st1.sc)).nm, _, _⟩ : WR)
      rw [k3]
      rw [if_neg h10, if_neg n2, if_pos ⟨h54, hn'⟩]; rfl
     ·exact wKK
     ·exact ⟨wkE_refl _, wkE_refl _, wkE_refl _, wkE_refl _, wkE_refl _, wkE_refl _, wkE_refl _, wkH_nil _⟩
   refine wXS ?_
   have n2 : ¬ (t.op = 11 ∨ t.op = 49 ∨ t.op = 52 ∧ t.name ≠ []) := by omega
   have n3 : ¬ (t.op = 54 ∧ t.name ≠ []) := fun h => h54 h.1
   refine brd_eq (fun h35 => ?_) (fun h35 => ?_)
   ·refine wXS ?_
    refine callG (open_c A rb st ok none) [0, 1, 2, 3, 4, 5] rfl ⟨rfl, rfl, rfl, rfl, rfl, rfl, trivial⟩ rfl fun j hj => ?_
    obtain ⟨b, sb, c⟩ := j
    refine wXS ?_
    have hgr : ScG st.sc (opened st b none sb c).sc := ScG.snoc _ _
    have hnm : nmS (opened st b none sb c).sc = nmS st.sc ++ [[]] := by simp [nmS, opened]
    have hat : (opened st b none sb c).sc[st.sc.length]? = some ⟨b, none, 0, none, []⟩ := by simp [opened]
    have hnl : (nmS st.sc).length = st.sc.length := by simp [nmS]
    refine ⟨⟨opened st b none sb c, [st.sc.length], some b⟩, ⟨ok.opened (by omega) hj, hgr, ⟨_, hat, rfl, rfl⟩, (by simp), fun h => absurd h (no_mode (by omega)), fun _ _ => ⟨[], false, (List.append_nil _).symm, (Bool.or_false _).symm, ?_⟩⟩, ?_, ?_⟩
    ·rw [wk_eq]
     show _ = wks t.kids [st.sc.length] (nmS (opened st b none sb c).sc)
     rw [hnm, ← hnl]
     rw [if_neg h10, if_neg n2, if_neg n3, if_pos h35]
    ·exact wKK
    ·exact ⟨wkE_refl _, wkE_refl _, wkE_refl _, wkE_refl _, wkE_refl _, wkE_refl _, wkE_refl _, wkH_nil _⟩
   refine wXS ?_
   refine brd_eq (fun h24 => ?_) (fun h24 => ?_)
   ·refine wXS ?_
    refine callG (open_c A rb st ok o) [0, 1, 2, 3, 4, 5] rfl ⟨rfl, rfl, rfl, rfl, rfl, rfl, trivial⟩ rfl fun j hj => ?_
    obtain ⟨b, sb, c⟩ := j
    refine wXS ?_
    have hgr : ScG st.sc (opened st b o sb c).sc := ScG.snoc _ _
    have hnm : nmS (opened st b o sb c).sc = nmS st.sc ++ [[]] := by simp [nmS, opened]
    have hat : (opened st b o sb c).sc[st.sc.length]? = some ⟨b, none, 0, o, []⟩ := by simp [opened]
    have hnl : (nmS st.sc).length = st.sc.length := by simp [nmS]
    refine ⟨⟨opened st b o sb c, (st.sc.length :: ch), some b⟩, ⟨ok.opened (by omega) hj, hgr, ⟨_, hat, rfl, hch.grow hgr⟩, (by simp), fun h => absurd h (no_mode (by omega)), fun _ _ => ⟨[], false, (List.append_nil _).symm, (Bool.or_false _).symm, ?_⟩⟩, ?_, ?_⟩
    ·rw [wk_eq]
     show _ = wks t.kids (st.sc.length :: ch) (nmS (opened st b o sb c).sc)
     rw [hnm, ← hnl]
     rw [if_neg h10, if_neg n2, if_neg n3, if_neg h35, if_pos (.inl h24)]
    ·exact wKK
    ·exact ⟨wkE_refl _, wkE_refl _, wkE_refl _, wkE_refl _, wkE_refl _, wkE_refl _, wkE_refl _, wkH_nil _⟩
   refine wXS ?_
   refine brd_eq (fun h25 => ?_) (fun h25 => ?_)
   ·refine wXS ?_
    refine callG (open_c A rb st ok o) [0, 1, 2, 3, 4, 5] rfl ⟨rfl, rfl, rfl, rfl, rfl, rfl, trivial⟩ rfl fun j hj => ?_
    obtain ⟨b, sb, c⟩ := j
    refine wXS ?_
    have hgr : ScG st.sc (opened st b o sb c).sc := ScG.snoc _ _
    have hnm : nmS (opened st b o sb c).sc = nmS st.sc ++ [[]] := by simp [nmS, opened]
    have hat : (opened st b o sb c).sc[st.sc.length]? = some ⟨b, none, 0, o, []⟩ := by simp [opened]
    have hnl : (nmS st.sc).length = st.sc.length := by simp [nmS]
    refine ⟨⟨opened st b o sb c, (st.sc.length :: ch), some b⟩, ⟨ok.opened (by omega) hj, hgr, ⟨_, hat, rfl, hch.grow hgr⟩, (by simp), fun h => absurd h (no_mode (by omega)), fun _ _ => ⟨[], false, (List.append_nil _).symm, (Bool.or_false _).symm, ?_⟩⟩, ?_, ?_⟩
    ·rw [wk_eq]
     show _ = wks t.kids (st.sc.length :: ch) (nmS (opened st b o sb c).sc)
     rw [hnm, ← hnl]
     rw [if_neg h10, if_neg n2, if_neg n3, if_neg h35, if_pos (.inr h25)]
    ·exact wKK
    ·exact ⟨wkE_refl _, wkE_refl _, wkE_refl _, wkE_refl _, wkE_refl _, wkE_refl _, wkE_refl _, wkH_nil _⟩
   refine wXS ?_
   refine ⟨⟨st, ch, o⟩, ⟨ok.mono (Nat.le_succ _) (by omega), ScG.refl _, hch, hne, fun _ => rfl, fun hc hr => ⟨[], false, (List.append_nil _).symm, (Bool.or_false _).symm, ?_⟩⟩, ?_, ?_⟩
   ·rw [wk_eq]
    show _ = wks t.kids ch (nmS st.sc)
    rw [if_neg h10, if_neg n2, if_neg n3, if_neg h35, if_neg (by omega), if_neg hr, if_neg hc]
   ·exact wKK
   ·exact ⟨wkE_refl _, wkE_refl _, wkE_refl _, wkE_refl _, wkE_refl _, wkE_refl _, wkE_refl _, wkH_nil _⟩
 rintro ⟨st1, ch1, o1⟩ ⟨k1, k2, k3, k4, k5, k6⟩
 refine wXS ?_
 have hkl := ht.len
 refine brd_eq (fun h41 => ?_) (fun h41 => ?_)
 ·have hc : ¬ isCls t := by
   rintro (h | h | h) <;> omega
  refine wXS ?_
  refine brd_not (brd_intro (fun hn => ?_) (fun hn => ?_))
  ·have hn' := (nil_iff hn).1 rfl
   have hr : ¬ isRes t := fun h => h.2 hn'
   refine wXS ?_
   have hfin : ∀ (s2 : RvS) (n : Nat), Went st1 s2 n (wks t.kids ch1 (nmS st1.sc)) → Went st s2 n (wk t ch (nmS st.sc)) := fun s2 n w => by
    obtain ⟨pls, un, q1, q2, q3⟩ := k6 hc hr
    rw [q3]
    exact ⟨w.ok, k2.trans w.g, w.nm, by rw [w.pl, q1, List.append_assoc], by rw [w.un, q2, Bool.or_assoc]⟩
   refine LoopN.intro LpI (fun p => LpInv t st st1 (m + 2 * t.sz) m ch1 o1 (wk t ch (nmS st.sc)) p)
    (fun ⟨i, _, v⟩ => mkS Tryz.f42.ntmps 0 [(0, .c (.v (.pointer (some ⟨rb, 0, none⟩)))), (2, .c (.v (ptrO o))), (4, .c (.lp 6 0)), (6, .c (.v v)), (9, .c (.v (.int .i64 ((t.kids.length : Int) - 1)))), (10, .c (.v (.int .i64 (-1)))), (112, .c (.v (.slice t.a t.kids.length t.cap))), (113, .c (.v (.int .i64 (t.kids.length : Int)))), (114, .c (.v (.int .i64 (i : Int))))])
    (fun ⟨_, st2, _⟩ => rvE A rb st2 ++ (.blk 25 (vs (nodeC t)) :: [])) (fun ⟨i, _, _⟩ => t.kids.length - i) [] rfl (fun _ => rfl) (fun _ => rfl) (fun _ _ => okHB_eq rfl)
    ⟨⟨0, st1, ptrO o1⟩, ⟨Nat.zero_le _, fun _ => ⟨rfl, ?_⟩, fun h0 => ?_⟩, ?_, ?_⟩ ?_
   ·exact Went.refl (k1.mono (Nat.le_add_right _ _) (by show m + 1 + 2 * 0 ≤ _; omega))
   ·have : t.kids = [] := List.length_eq_zero_iff.1 h0.symm
    refine hfin _ _ ?_
    rw [this]
    exact Went.refl (k1.mono (by omega) hm2)
   ·(repeat' (first | exact trivial | refine And.intro (by with_reducible rfl) ?_ | (with_reducible exact wkC_refl _) | (with_reducible exact wkCs_refl _) | refine And.intro ?_ ?_))
    all_goals first | rfl | exact av_int (by rw [wrap_i64 (by omega)])
   ·(repeat (first | exact wkH_nil _ | exact trivial | refine And.intro (wkE_refl _) ?_ | refine And.intro trivial ?_))
   rintro ⟨i, st2, v⟩ ⟨hi, hlt, hend⟩
   have hi : i ≤ t.kids.length := hi
   refine wXS ?_
   refine brd_dec (fun (h1 : (i : Int) < (t.kids.length : Int)) => ?_) (fun (h1 : ¬ (i : Int) < (t.kids.length : Int)) => ?_)
   ·have hil : i < t.kids.length := by omega
    obtain ⟨k, hk⟩ : ∃ k, t.kids[i]? = some k := ⟨_, List.getElem?_eq_getElem hil⟩
    have hsa := kid_some ht hk
    have hkm := List.mem_of_getElem? hk
    obtain ⟨hv, wd⟩ := hlt hil
    obtain rfl : v = ptrO o1 := hv
    have hts : szs (t.kids.take (i + 1)) = szs (t.kids.take i) + k.sz := take_szs hk
    have hto := szs_take t.kids (i + 1)
    refine wXS ?_
    refine Nd.mk ⟨hsa, by omega, by omega⟩ ?_
    refine wXS ?_
    refine LdN.agg (nodeC k) rfl (fun w hw => (hA w hw.1).row) rfl (fun j hj => by rw [Int.toNat_natCast]; exact nodesC_get t.kids i j hj hk) ?_
    refine wXS ?_
    refine brd_eq (fun (h2 : (i : Int) = (t.kids.length : Int) - 1) => ?_) (fun (h2 : ¬ (i : Int) = (t.kids.length : Int) - 1) => ?_)
    ·have hi1 : i + 1 = t.kids.length := by omega
     ((conv => whnf); (repeat ((first | refine SeqN.plain ?_ | refine BoxN.own ?_ | refine VrN.norm (wrap_i64 (by omega)) ?_ | refine VrN.keep ?_ | refine DrawN.calm (by decide +kernel) ?_ | refine Nd.mk (by decide +kernel) ?_ | refine Nd.mk (by omega) ?_ | (refine Nd.mk ?_ ?_; focus ((repeat' (first | exact trivial | exact wkE_refl _ | refine And.intro ?_ ?_)); done)) | refine RdN.intro _ rfl (by rfl) ?_); (conv => whnf))))
     refine RwN.known (intC [32, 33, 34]) rfl fun lb => ?_
     ((conv => whnf); (repeat ((first | refine SeqN.plain ?_ | refine BoxN.own ?_ | refine VrN.norm (wrap_i64 (by omega)) ?_ | refine VrN.keep ?_ | refine DrawN.calm (by decide +kernel) ?_ | refine Nd.mk (by decide +kernel) ?_ | refine Nd.mk (by omega) ?_ | (refine Nd.mk ?_ ?_; focus ((repeat' (first | exact trivial | exact wkE_refl _ | refine And.intro ?_ ?_)); done)) | refine RdN.intro _ rfl (by rfl) ?_); (conv => whnf))))
     refine call1 (ContainsI_c (some ⟨lb, 0, none⟩) [32, 33, 34] 3 t.op (fun _ => rfl) (by decide) _ (fun w hw => hw.2.2.2.2.2.2.1)) ?_
     rw [show [32, 33, 34].contains t.op = false from by simpa using hc]
     refine wXS ?_
     refine brd_eq (fun h3 => ?_) (fun h3 => absurd h2 h3)
     refine wXS ?_
     refine callG (ih k hkm (ht.kid hkm) A (fun w h => (hA w h).kid hkm) rb st2 (m + 1 + 2 * szs (t.kids.take i)) ch1 o1 wd.ok (by omega) (k3.grow wd.g) k4) [0, 1, 2, 3, 4, 5] rfl ⟨rfl, rfl, rfl, rfl, rfl, rfl, trivial⟩ rfl fun st3 w3 => ?_
     refine wXS ?_
     have w4 := Went.step hk wd w3
     rw [hi1, List.take_length] at w4
     refine ⟨⟨i + 1, st3, ptrO o1⟩, ⟨by show i + 1 ≤ _; omega, fun h => absurd h (by show ¬ i + 1 < _; omega), fun _ => hfin _ _ (w4.mono (by omega) (by omega))⟩, by show t.kids.length - (i + 1) < t.kids.length - i; omega, ?_, ?_⟩
     ·exact wKK
     ·(repeat (first | exact wkH_nil _ | exact trivial | refine And.intro (wkE_refl _) ?_ | refine And.intro trivial ?_))
    ·have hi1 : i + 1 < t.kids.length := by omega
     refine wXS ?_
     refine brd_eq (fun h3 => absurd h3 h2) (fun _ => ?_)
     refine wXS ?_
     refine callG (ih k hkm (ht.kid hkm) A (fun w h => (hA w h).kid hkm) rb st2 (m + 1 + 2 * szs (t.kids.take i)) ch1 o1 wd.ok (by omega) (k3.grow wd.g) k4) [0, 1, 2, 3, 4, 5] rfl ⟨rfl, rfl, rfl, rfl, rfl, rfl, trivial⟩ rfl fun st3 w3 => ?_
     refine wXS ?_
     refine ⟨⟨i + 1, st3, ptrO o1⟩, ⟨by show i + 1 ≤ _; omega, fun _ => ⟨rfl, Went.step hk wd w3⟩, fun h => absurd h (by show ¬ i + 1 = _; omega)⟩, by show t.kids.length - (i + 1) < t.kids.length - i; omega, ?_, ?_⟩
     ·exact wKK
     ·(repeat (first | exact wkH_nil _ | exact trivial | refine And.intro (wkE_refl _) ?_ | refine And.intro trivial ?_))
   ·have hil : i = t.kids.length := by omega
    refine wXS ?_
    refine ⟨st2, hend hil, rfl, ?_⟩
    (repeat (first | exact wkH_nil _ | exact trivial | refine And.intro (wkE_refl _) ?_ | refine And.intro trivial ?_))
  ·have hr : isRes t := ⟨h41, fun h => by cases (nil_iff hn).2 h⟩
   obtain ⟨⟩ := k5 (.inr hr)
   have hpm := ok.pm
   refine wXS ?_
   refine LdN.one (a := some ⟨rb, 0, none⟩) (q := 1) (.slice (at0 st.pa) st.pl.length st.pcap) rfl (fun w hw => hw.2.1) rfl ?_
   refine wXS ?_
   refine LdN.one (a := some ⟨rb, 0, none⟩) (q := 1) (.slice (at0 st.pa) st.pl.length st.pcap) rfl (fun w hw => hw.2.1) rfl ?_
   refine wXS ?_
   refine AppN.grow 3 (plsC st.pl) (plC (0, 0)) rfl rfl ⟨Nat.le_refl 1, ⟨by show (st.pl.length + 1) * 16 ≤ _; omega, by omega⟩, by decide⟩ fun pb pc g1 g2 => ?_
   refine wXS ?_
   refine EffW.appTo (i := 1) (q := 1) (ys := [_]) (rvC (placed st (0, 0) pb pc)) 3 rfl rfl rfl rfl rfl rfl rfl (Nat.le_of_ble_eq_true rfl) (by simp [rvC, placed, at0]) rfl ?_
   refine wXS ?_
   have e1 : plsC st.pl ++ plC (0, 0) = plsC (placed st (0, 0) pb pc).pl := by simp [plsC, placed]
   have e2 : st.pl.length + 1 = (placed st (0, 0) pb pc).pl.length := by simp [placed]
   rw [e1, e2]
   have ok1 : RvOk (placed st (0, 0) pb pc) (m + 1) := ok.placed (by omega) g1
   have hwk : wk t ch (nmS st.sc) = (wkr t.kids t.name ch (nmS st.sc)).1.pre (wkr t.kids t.name ch (nmS st.sc)).2 := by
    rw [wk_eq, if_neg (by omega), if_neg (by omega), if_neg (by omega), if_neg (by omega), if_neg (by omega), if_pos hr]
   refine LoopN.intro LpI (fun p => LpInv t st (placed st (0, 0) pb pc) (m + 2 * t.sz) m ch o (wk t ch (nmS st.sc)) p)
    (fun ⟨i, _, v⟩ => mkS Tryz.f42.ntmps 0 [(0, .c (.v (.pointer (some ⟨rb, 0, none⟩)))), (2, .c (.v (ptrO o))), (4, .c (.lp 6 0)), (6, .c (.v v)), (9, .c (.v (.int .i64 ((t.kids.length : Int) - 1)))), (10, .c (.v (.int .i64 ((st.pl.length : Int))))), (112, .c (.v (.slice t.a t.kids.length t.cap))), (113, .c (.v (.int .i64 (t.kids.length : Int)))), (114, .c (.v (.int .i64 (i : Int))))])
    (fun ⟨_, st2, _⟩ => rvE A rb st2 ++ (.blk 25 (vs (nodeC t)) :: [.dead])) (fun ⟨i, _, _⟩ => t.kids.length - i) [] rfl (fun _ => rfl) (fun _ => rfl) (fun _ _ => okHB_eq rfl)
    ⟨⟨0, (placed st (0, 0) pb pc), ptrO o⟩, ⟨Nat.zero_le _, fun _ => ⟨rfl, ?_⟩, fun h0 => ?_⟩, ?_, ?_⟩ ?_
   ·exact Went.refl ok1
   ·have : t.kids = [] := List.length_eq_zero_iff.1 h0.symm
    rw [hwk, this]
    exact ⟨ok1.mono (by omega) hm2, ScG.refl _, rfl, rfl, (Bool.or_false _).symm⟩
   ·(repeat' (first | exact trivial | refine And.intro (by with_reducible rfl) ?_ | (with_reducible exact wkC_refl _) | (with_reducible exact wkCs_refl _) | refine And.intro ?_ ?_))
    all_goals first | rfl | exact av_int (by rw [wrap_i64 (by omega)])
   ·(repeat (first | exact wkH_nil _ | exact trivial | refine And.intro (wkE_refl _) ?_ | refine And.intro trivial ?_))
   rintro ⟨i, st2, v⟩ ⟨hi, hlt, hend⟩
   have hi : i ≤ t.kids.length := hi
   refine wXS ?_
   refine brd_dec (fun (h1 : (i : Int) < (t.kids.length : Int)) => ?_) (fun (h1 : ¬ (i : Int) < (t.kids.length : Int)) => ?_)
   ·have hil : i < t.kids.length := by omega
    obtain ⟨k, hk⟩ : ∃ k, t.kids[i]? = some k := ⟨_, List.getElem?_eq_getElem hil⟩
    have hsa := kid_some ht hk
    have hkm := List.mem_of_getElem? hk
    obtain ⟨hv, wd⟩ := hlt hil
    obtain rfl : v = ptrO o := hv
    have hts : szs (t.kids.take (i + 1)) = szs (t.kids.take i) + k.sz := take_szs hk
    have hto := szs_take t.kids (i + 1)
    refine wXS ?_
    refine Nd.mk ⟨hsa, by omega, by omega⟩ ?_
    refine wXS ?_
    refine LdN.agg (nodeC k) rfl (fun w hw => (hA w hw.1).row) rfl (fun j hj => by rw [Int.toNat_natCast]; exact nodesC_get t.kids i j hj hk) ?_
    refine wXS ?_
    refine brd_eq (fun (h2 : (i : Int) = (t.kids.length : Int) - 1) => ?_) (fun (h2 : ¬ (i : Int) = (t.kids.length : Int) - 1) => ?_)
    ·have hi1 : i + 1 = t.kids.length := by omega
     ((conv => whnf); (repeat ((first | refine SeqN.plain ?_ | refine BoxN.own ?_ | refine VrN.norm (wrap_i64 (by omega)) ?_ | refine VrN.keep ?_ | refine DrawN.calm (by decide +kernel) ?_ | refine Nd.mk (by decide +kernel) ?_ | refine Nd.mk (by omega) ?_ | (refine Nd.mk ?_ ?_; focus ((repeat' (first | exact trivial | exact wkE_refl _ | refine And.intro ?_ ?_)); done)) | refine RdN.intro _ rfl (by rfl) ?_); (conv => whnf))))
     refine RwN.known (intC [32, 33, 34]) rfl fun lb => ?_
     ((conv => whnf); (repeat ((first | refine SeqN.plain ?_ | refine BoxN.own ?_ | refine VrN.norm (wrap_i64 (by omega)) ?_ | refine VrN.keep ?_ | refine DrawN.calm (by decide +kernel) ?_ | refine Nd.mk (by decide +kernel) ?_ | refine Nd.mk (by omega) ?_ | (refine Nd.mk ?_ ?_; focus ((repeat' (first | exact trivial | exact wkE_refl _ | refine And.intro ?_ ?_)); done)) | refine RdN.intro _ rfl (by rfl) ?_); (conv => whnf))))
     refine call1 (ContainsI_c (some ⟨lb, 0, none⟩) [32, 33, 34] 3 t.op (fun _ => rfl) (by decide) _ (fun w hw => hw.2.2.2.2.2.2.1)) ?_
     rw [show [32, 33, 34].contains t.op = false from by simpa using hc]
     refine wXS ?_
     refine brd_eq (fun h3 => ?_) (fun h3 => absurd h2 h3)
     refine wXS ?_
     have hom : m + 1 + 2 * szs (t.kids.take i) < 100000 := by omega
     have hpl2 : st2.pl = (st.pl ++ [(0, 0)]) ++ (wks (t.kids.take i) ch (nmS st.sc)).pl := wd.pl
     have hch2 : ChP st2.sc ch o := ChP.grow (sc := st.sc) wd.g hch
     refine callG (rescue_c A rb st2 wd.ok hom ch o hch2 hne t.name st.pl.length (by rw [hpl2]; simp only [List.length_append, List.length_singleton]; omega)) [0, 1, 2, 3, 4, 5] rfl ⟨rfl, rfl, rfl, rfl, rfl, rfl, trivial⟩ rfl fun st5 w5 => ?_
     refine wXS ?_
     refine callG (ih k hkm (ht.kid hkm) A (fun w h => (hA w h).kid hkm) rb st5 (m + 1 + 2 * szs (t.kids.take i) + 1) ch o w5.ok (by omega) (hch2.grow w5.g) hne) [0, 1, 2, 3, 4, 5] rfl ⟨rfl, rfl, rfl, rfl, rfl, rfl, trivial⟩ rfl fun st3 w3 => ?_
     refine wXS ?_
     have hw := wkr_snoc (t.kids.take i) k t.name ch (nmS st.sc)
     have hwn : nmS st2.sc = (wks (t.kids.take i) ch (nmS st.sc)).nm := wd.nm
     rw [← take_snoc hk, hi1, List.take_length, ← hwn, ← w5.nm] at hw
     rw [hw] at hwk
     have w4 : Went st st3 (m + 1 + 2 * szs (t.kids.take i) + 1 + 2 * k.sz) (wk t ch (nmS st.sc)) := by
      rw [hwk]
      refine ⟨w3.ok, wd.g.trans (w5.g.trans w3.g), w3.nm, ?_, ?_⟩
      ·rw [w3.pl, w5.pl, hpl2]
       simp [WR.pre, WR.cat]
      ·rw [w3.un, w5.un, wd.un, Bool.or_assoc]
       rfl
     refine ⟨⟨i + 1, st3, ptrO o⟩, ⟨by show i + 1 ≤ _; omega, fun h => absurd h (by show ¬ i + 1 < _; omega), fun _ => w4.mono (by omega) (by omega)⟩, by show t.kids.length - (i + 1) < t.kids.length - i; omega, ?_, ?_⟩
     ·exact wKK
     ·(repeat (first | exact wkH_nil _ | exact trivial | refine And.intro (wkE_refl _) ?_ | refine And.intro trivial ?_))
    ·-- not the last kid
     have hi1 : i + 1 < t.kids.length := by omega
     refine wXS ?_
     refine brd_eq (fun h3 => absurd h3 h2) (fun _ => ?_)
     refine wXS ?_
     refine callG (ih k hkm (ht.kid hkm) A (fun w h => (hA w h).kid hkm) rb st2 (m + 1 + 2 * szs (t.kids.take i)) ch o wd.ok (by omega) (hch.grow wd.g) hne) [0, 1, 2, 3, 4, 5] rfl ⟨rfl, rfl, rfl, rfl, rfl, rfl, trivial⟩ rfl fun st3 w3 => ?_
     refine wXS ?_
     refine ⟨⟨i + 1, st3, ptrO o⟩, ⟨by show i + 1 ≤ _; omega, fun _ => ⟨rfl, Went.step hk wd w3⟩, fun h => absurd h (by show ¬ i + 1 = _; omega)⟩, by show t.kids.length - (i + 1) < t.kids.length - i; omega, ?_, ?_⟩
     ·exact wKK
     ·(repeat (first | exact wkH_nil _ | exact trivial | refine And.intro (wkE_refl _) ?_ | refine And.intro trivial ?_))
   ·have hil : i = t.kids.length := by omega
    refine wXS ?_
    refine ⟨st2, hend hil, rfl, ?_⟩
    (repeat (first | exact wkH_nil _ | exact trivial | refine And.intro (wkE_refl _) ?_ | refine And.intro trivial ?_))
 ·have hr : ¬ isRes t := fun h => h41 h.1
  refine wXS ?_
  by_cases hc : isCls t
  ·obtain ⟨⟩ := k5 (.inl hc)
   have hwk : wk t ch (nmS st.sc) = wkc t.kids ch (nmS st.sc) := by
    have hcc := hc
    rw [wk_eq, if_neg (by rcases hcc with h | h | h <;> omega), if_neg (by rcases hcc with h | h | h <;> omega), if_neg (by rcases hcc with h | h | h <;> omega), if_neg (by rcases hcc with h | h | h <;> omega), if_neg (by rcases hcc with h | h | h <;> omega), if_neg hr, if_pos hc]
   refine LoopN.intro LpI (fun p => LpInv t st st (m + 2 * t.sz) m ch o (wk t ch (nmS st.sc)) p)
    (fun ⟨i, _, v⟩ => mkS Tryz.f42.ntmps 0 [(0, .c (.v (.pointer (some ⟨rb, 0, none⟩)))), (2, .c (.v (ptrO o))), (4, .c (.lp 6 0)), (6, .c (.v v)), (9, .c (.v (.int .i64 ((t.kids.length : Int) - 1)))), (10, .c (.v (.int .i64 (-1)))), (112, .c (.v (.slice t.a t.kids.length t.cap))), (113, .c (.v (.int .i64 (t.kids.length : Int)))), (114, .c (.v (.int .i64 (i : Int))))])
    (fun ⟨_, st2, _⟩ => rvE A rb st2 ++ (.blk 25 (vs (nodeC t)) :: [])) (fun ⟨i, _, _⟩ => t.kids.length - i) [] rfl (fun _ => rfl) (fun _ => rfl) (fun _ _ => okHB_eq rfl)
    ⟨⟨0, st, ptrO o⟩, ⟨Nat.zero_le _, fun _ => ⟨rfl, ?_⟩, fun h0 => ?_⟩, ?_, ?_⟩ ?_
   ·exact Went.refl (ok.mono (by show m ≤ m + 1 + 2 * 0; omega) (by show m + 1 + 2 * 0 ≤ _; omega))
   ·have : t.kids = [] := List.length_eq_zero_iff.1 h0.symm
    rw [hwk, this]
    exact Went.refl (ok.mono (by omega) hm2)
   ·(repeat' (first | exact trivial | refine And.intro (by with_reducible rfl) ?_ | (with_reducible exact wkC_refl _) | (with_reducible exact wkCs_refl _) | refine And.intro ?_ ?_))
    all_goals first | rfl | exact av_int (by rw [wrap_i64 (by omega)])
   ·(repeat (first | exact wkH_nil _ | exact trivial | refine And.intro (wkE_refl _) ?_ | refine And.intro trivial ?_))
   rintro ⟨i, st2, v⟩ ⟨hi, hlt, hend⟩
   have hi : i ≤ t.kids.length := hi
   refine wXS ?_
   refine brd_dec (fun (h1 : (i : Int) < (t.kids.length : Int)) => ?_) (fun (h1 : ¬ (i : Int) < (t.kids.length : Int)) => ?_)
   ·have hil : i < t.kids.length := by omega
    obtain ⟨k, hk⟩ : ∃ k, t.kids[i]? = some k := ⟨_, List.getElem?_eq_getElem hil⟩
    have hsa := kid_some ht hk
    have hkm := List.mem_of_getElem? hk
    obtain ⟨hv, wd⟩ := hlt hil
    obtain rfl : v = ptrO o := hv
    have hts : szs (t.kids.take (i + 1)) = szs (t.kids.take i) + k.sz := take_szs hk
    have hto := szs_take t.kids (i + 1)
    refine wXS ?_
    refine Nd.mk ⟨hsa, by omega, by omega⟩ ?_
    refine wXS ?_
    refine LdN.agg (nodeC k) rfl (fun w hw => (hA w hw.1).row) rfl (fun j hj => by rw [Int.toNat_natCast]; exact nodesC_get t.kids i j hj hk) ?_
    refine wXS ?_
    refine brd_eq (fun (h2 : (i : Int) = (t.kids.length : Int) - 1) => ?_) (fun (h2 : ¬ (i : Int) = (t.kids.length : Int) - 1) => ?_)
    ·have hi1 : i + 1 = t.kids.length := by omega
     ((conv => whnf); (repeat ((first | refine SeqN.plain ?_ | refine BoxN.own ?_ | refine VrN.norm (wrap_i64 (by omega)) ?_ | refine VrN.keep ?_ | refine DrawN.calm (by decide +kernel) ?_ | refine Nd.mk (by decide +kernel) ?_ | refine Nd.mk (by omega) ?_ | (refine Nd.mk ?_ ?_; focus ((repeat' (first | exact trivial | exact wkE_refl _ | refine And.intro ?_ ?_)); done)) | refine RdN.intro _ rfl (by rfl) ?_); (conv => whnf))))
     refine RwN.known (intC [32, 33, 34]) rfl fun lb => ?_
     ((conv => whnf); (repeat ((first | refine SeqN.plain ?_ | refine BoxN.own ?_ | refine VrN.norm (wrap_i64 (by omega)) ?_ | refine VrN.keep ?_ | refine DrawN.calm (by decide +kernel) ?_ | refine Nd.mk (by decide +kernel) ?_ | refine Nd.mk (by omega) ?_ | (refine Nd.mk ?_ ?_; focus ((repeat' (first | exact trivial | exact wkE_refl _ | refine And.intro ?_ ?_)); done)) | refine RdN.intro _ rfl (by rfl) ?_); (conv => whnf))))
     refine call1 (ContainsI_c (some ⟨lb, 0, none⟩) [32, 33, 34] 3 t.op (fun _ => rfl) (by decide) _ (fun w hw => hw.2.2.2.2.2.2.1)) ?_
     rw [show [32, 33, 34].contains t.op = true from by simpa using hc]
     refine wXS ?_
     have hom : m + 1 + 2 * szs (t.kids.take i) < 100000 := by omega
     refine callG (open_c A rb st2 wd.ok none) [0, 1, 2, 3, 4, 5] rfl ⟨rfl, rfl, rfl, rfl, rfl, rfl, trivial⟩ rfl fun j hj => ?_
     obtain ⟨b, sb, c⟩ := j
     have hgr : ScG st2.sc (opened st2 b none sb c).sc := ScG.snoc _ _
     have hnm : nmS (opened st2 b none sb c).sc = nmS st2.sc ++ [[]] := by simp [nmS, opened]
     have hat : (opened st2 b none sb c).sc[st2.sc.length]? = some ⟨b, none, 0, none, []⟩ := by simp [opened]
     have hnl : (nmS st2.sc).length = st2.sc.length := by simp [nmS]
     refine wXS ?_
     refine callG (ih k hkm (ht.kid hkm) A (fun w h => (hA w h).kid hkm) rb (opened st2 b none sb c) (m + 1 + 2 * szs (t.kids.take i) + 1) [st2.sc.length] (some b) (wd.ok.opened hom hj) (by omega) ⟨_, hat, rfl, rfl⟩ (by simp)) [0, 1, 2, 3, 4, 5] rfl ⟨rfl, rfl, rfl, rfl, rfl, rfl, trivial⟩ rfl fun st3 w3 => ?_
     refine wXS ?_
     have wo : Went st2 (opened st2 b none sb c) (m + 1 + 2 * szs (t.kids.take i) + 1) ⟨nmS (opened st2 b none sb c).sc, [], false⟩ := ⟨wd.ok.opened hom hj, hgr, rfl, (List.append_nil _).symm, (Bool.or_false _).symm⟩
     have w4 := (wd.cat wo).cat w3
     rw [WR.cat_nil] at w4
     have hw := wkc_snoc (t.kids.take i) k ch (nmS st.sc)
     rw [← take_snoc hk, hi1, List.take_length, ← hwk, ← wd.nm, ← hnm, hnl] at hw
     rw [← hw] at w4
     refine ⟨⟨i + 1, st3, ptrO (some b)⟩, ⟨by show i + 1 ≤ _; omega, fun h => absurd h (by show ¬ i + 1 < _; omega), fun _ => w4.mono (by omega) (by omega)⟩, by show t.kids.length - (i + 1) < t.kids.length - i; omega, ?_, ?_⟩
     ·exact wKK
     ·(repeat (first | exact wkH_nil _ | exact trivial | refine And.intro (wkE_refl _) ?_ | refine And.intro trivial ?_))
    ·-- not the last kid
     have hi1 : i + 1 < t.kids.length := by omega
     refine wXS ?_
     refine brd_eq (fun h3 => absurd h3 h2) (fun _ => ?_)
     refine wXS ?_
     refine callG (ih k hkm (ht.kid hkm) A (fun w h => (hA w h).kid hkm) rb st2 (m + 1 + 2 * szs (t.kids.take i)) ch o wd.ok (by omega) (hch.grow wd.g) hne) [0, 1, 2, 3, 4, 5] rfl ⟨rfl, rfl, rfl, rfl, rfl, rfl, trivial⟩ rfl fun st3 w3 => ?_
     refine wXS ?_
     refine ⟨⟨i + 1, st3, ptrO o⟩, ⟨by show i + 1 ≤ _; omega, fun _ => ⟨rfl, Went.step hk wd w3⟩, fun h => absurd h (by show ¬ i + 1 = _; omega)⟩, by show t.kids.length - (i + 1) < t.kids.length - i; omega, ?_, ?_⟩
     ·exact wKK
     ·(repeat (first | exact wkH_nil _ | exact trivial | refine And.intro (wkE_refl _) ?_ | refine And.intro trivial ?_))
   ·have hil : i = t.kids.length := by omega
    refine wXS ?_
    refine ⟨st2, hend hil, rfl, ?_⟩
    (repeat (first | exact wkH_nil _ | exact trivial | refine And.intro (wkE_refl _) ?_ | refine And.intro trivial ?_))
  have hfin : ∀ (s2 : RvS) (n : Nat), Went st1 s2 n (wks t.kids ch1 (nmS st1.sc)) → Went st s2 n (wk t ch (nmS st.sc)) := fun s2 n w => by
   obtain ⟨pls, un, q1, q2, q3⟩ := k6 hc hr
   rw [q3]
   exact ⟨w.ok, k2.trans w.g, w.nm, by rw [w.pl, q1, List.append_assoc], by rw [w.un, q2, Bool.or_assoc]⟩
  refine LoopN.intro LpI (fun p => LpInv t st st1 (m + 2 * t.sz) m ch1 o1 (wk t ch (nmS st.sc)) p)
   (fun ⟨i, _, v⟩ => mkS Tryz.f42.ntmps 0 [(0, .c (.v (.pointer (some ⟨rb, 0, none⟩)))), (2, .c (.v (ptrO o))), (4, .c (.lp 6 0)), (6, .c (.v v)), (9, .c (.v (.int .i64 ((t.kids.length : Int) - 1)))), (10, .c (.v (.int .i64 (-1)))), (112, .c (.v (.slice t.a t.kids.length t.cap))), (113, .c (.v (.int .i64 (t.kids.length : Int)))), (114, .c (.v (.int .i64 (i : Int))))])
   (fun ⟨_, st2, _⟩ => rvE A rb st2 ++ (.blk 25 (vs (nodeC t)) :: [])) (fun ⟨i, _, _⟩ => t.kids.length - i) [] rfl (fun _ => rfl) (fun _ => rfl) (fun _ _ => okHB_eq rfl)
   ⟨⟨0, st1, ptrO o1⟩, ⟨Nat.zero_le _, fun _ => ⟨rfl, ?_⟩, fun h0 => ?_⟩, ?_, ?_⟩ ?_
  ·exact Went.refl (k1.mono (Nat.le_add_right _ _) (by show m + 1 + 2 * 0 ≤ _; omega))
  ·have : t.kids = [] := List.length_eq_zero_iff.1 h0.symm
   refine hfin _ _ ?_
   rw [this]
   exact Went.refl (k1.mono (by omega) hm2)
  ·(repeat' (first | exact trivial | refine And.intro (by with_reducible rfl) ?_ | (with_reducible exact wkC_refl _) | (with_reducible exact wkCs_refl _) | refine And.intro ?_ ?_))
   all_goals first | rfl | exact av_int (by rw [wrap_i64 (by omega)])
  ·(repeat (first | exact wkH_nil _ | exact trivial | refine And.intro (wkE_refl _) ?_ | refine And.intro trivial ?_))
  rintro ⟨i, st2, v⟩ ⟨hi, hlt, hend⟩
  have hi : i ≤ t.kids.length := hi
  refine wXS ?_
  refine brd_dec (fun (h1 : (i : Int) < (t.kids.length : Int)) => ?_) (fun (h1 : ¬ (i : Int) < (t.kids.length : Int)) => ?_)
  ·have hil : i < t.kids.length := by omega
   obtain ⟨k, hk⟩ : ∃ k, t.kids[i]? = some k := ⟨_, List.getElem?_eq_getElem hil⟩
   have hsa := kid_some ht hk
   have hkm := List.mem_of_getElem? hk
   obtain ⟨hv, wd⟩ := hlt hil
   obtain rfl : v = ptrO o1 := hv
   have hts : szs (t.kids.take (i + 1)) = szs (t.kids.take i) + k.sz := take_szs hk
   have hto := szs_take t.kids (i + 1)
   refine wXS ?_
   refine Nd.mk ⟨hsa, by omega, by omega⟩ ?_
   refine wXS ?_
   refine LdN.agg (nodeC k) rfl (fun w hw => (hA w hw.1).row) rfl (fun j hj => by rw [Int.toNat_natCast]; exact nodesC_get t.kids i j hj hk) ?_
   refine wXS ?_
   refine brd_eq (fun (h2 : (i : Int) = (t.kids.length : Int) - 1) => ?_) (fun (h2 : ¬ (i : Int) = (t.kids.length : Int) - 1) => ?_)
   ·have hi1 : i + 1 = t.kids.length := by omega
    ((conv => whnf); (repeat ((first | refine SeqN.plain ?_ | refine BoxN.own ?_ | refine VrN.norm (wrap_i64 (by omega)) ?_ | refine VrN.keep ?_ | refine DrawN.calm (by decide +kernel) ?_ | refine Nd.mk (by decide +kernel) ?_ | refine Nd.mk (by omega) ?_ | (refine Nd.mk ?_ ?_; focus ((repeat' (first | exact trivial | exact wkE_refl _ | refine And.intro ?_ ?_)); done)) | refine RdN.intro _ rfl (by rfl) ?_); (conv => whnf))))
    refine RwN.known (intC [32, 33, 34]) rfl fun lb => ?_
    ((conv => whnf); (repeat ((first | refine SeqN.plain ?_ | refine BoxN.own ?_ | refine VrN.norm (wrap_i64 (by omega)) ?_ | refine VrN.keep ?_ | refine DrawN.calm (by decide +kernel) ?_ | refine Nd.mk (by decide +kernel) ?_ | refine Nd.mk (by omega) ?_ | (refine Nd.mk ?_ ?_; focus ((repeat' (first | exact trivial | exact wkE_refl _ | refine And.intro ?_ ?_)); done)) | refine RdN.intro _ rfl (by rfl) ?_); (conv => whnf))))
    refine call1 (ContainsI_c (some ⟨lb, 0, none⟩) [32, 33, 34] 3 t.op (fun _ => rfl) (by decide) _ (fun w hw => hw.2.2.2.2.2.2.1)) ?_
    rw [show [32, 33, 34].contains t.op = false from by simpa using hc]
    refine wXS ?_
    refine brd_eq (fun h3 => ?_) (fun h3 => absurd h2 h3)
    refine wXS ?_
    refine callG (ih k hkm (ht.kid hkm) A (fun w h => (hA w h).kid hkm) rb st2 (m + 1 + 2 * szs (t.kids.take i)) ch1 o1 wd.ok (by omega) (k3.grow wd.g) k4) [0, 1, 2, 3, 4, 5] rfl ⟨rfl, rfl, rfl, rfl, rfl, rfl, trivial⟩ rfl fun st3 w3 => ?_
    refine wXS ?_
    have w4 := Went.step hk wd w3
    rw [hi1, List.take_length] at w4
    refine ⟨⟨i + 1, st3, ptrO o1⟩, ⟨by show i + 1 ≤ _; omega, fun h => absurd h (by show ¬ i + 1 < _; omega), fun _ => hfin _ _ (w4.mono (by omega) (by omega))⟩, by show t.kids.length - (i + 1) < t.kids.length - i; omega, ?_, ?_⟩
    ·exact wKK
    ·(repeat (first | exact wkH_nil _ | exact trivial | refine And.intro (wkE_refl _) ?_ | refine And.intro trivial ?_))
   ·have hi1 : i + 1 < t.kids.length := by omega
    refine wXS ?_
    refine brd_eq (fun h3 => absurd h3 h2) (fun _ => ?_)
    refine wXS ?_
    refine callG (ih k hkm (ht.kid hkm) A (fun w h => (hA w h).kid hkm) rb st2 (m + 1 + 2 * szs (t.kids.take i)) ch1 o1 wd.ok (by omega) (k3.grow wd.g) k4) [0, 1, 2, 3, 4, 5] rfl ⟨rfl, rfl, rfl, rfl, rfl, rfl, trivial⟩ rfl fun st3 w3 => ?_
    refine wXS ?_
    refine ⟨⟨i + 1, st3, ptrO o1⟩, ⟨by show i + 1 ≤ _; omega, fun _ => ⟨rfl, Went.step hk wd w3⟩, fun h => absurd h (by show ¬ i + 1 = _; omega)⟩, by show t.kids.length - (i + 1) < t.kids.length - i; omega, ?_, ?_⟩
    ·exact wKK
    ·(repeat (first | exact wkH_nil _ | exact trivial | refine And.intro (wkE_refl _) ?_ | refine And.intro trivial ?_))
  ·have hil : i = t.kids.length := by omega
   refine wXS ?_
   refine ⟨st2, hend hil, rfl, ?_⟩
   (repeat (first | exact wkH_nil _ | exact trivial | refine And.intro (wkE_refl _) ?_ | refine And.intro trivial ?_))
end Go.Proofs.YtpikpjlhdkkigaaGreatDoor
namespace Go.Proofs.YtpikpjlhdkkigaaGreatDoor
open Go.AX Go.RowKit Go.Tree Go.Scan
set_option maxRecDepth 20000
set_option maxHeartbeats 4000000 in
theorem begin_c {n : Nat} (hx : Hx n) {s : TP} {rs es : List TP} (hs : s.sz < n) (hv : V .ex s) (ho : s.op = 26) (hr : Sm n .res rs) (he : Sm n .ens es) (h1 : es.length ≤ 1) (h2 : 1 ≤ rs.length + es.length) : YesL 125 (s :: (rs ++ es)) := fun a cap hk => by
 refine factC hm Tryz.func125 (by kernel_rfl) rfl rfl ?_
 have hsa : a.isSome = true := isT (i := 0) hk.nil rfl
 have hlen : (s :: (rs ++ es)).length = (rs ++ es).length + 1 := rfl
 have hll := hk.len
 have hcap : (rs ++ es).length + 1 ≤ cap := hk.cap
 have hle : 1 ≤ (rs ++ es).length := by rw [List.length_append]; exact h2
 have htk : LsK (tlA a cap) (cap - 1) (rs ++ es) := hk.tl
 rw [hlen] at hll ⊢
 refine wX ?_
 refine brd_dec (fun h => by omega) (fun _ => ?_)
 refine wX ?_
 refine Nd.mk ⟨hsa, by decide, by omega⟩ ?_
 refine wX ?_
 refine LdN.agg (a := a) (q := 0) (nodeC s) rfl (fun w hw => hw.1.2.1) rfl (fun j hj => nodesC_get (s :: (rs ++ es)) 0 j hj rfl) ?_
 refine wX ?_
 refine call1 (seq_c hx hs (hk.k s (List.mem_cons_self ..)) hv ho _ (fun w hw => ⟨hw.1.1, hw.1.2.2 s (List.mem_cons_self ..)⟩)) ?_
 refine wX ?_
 refine ReadW.slc_lo (e := 25) (sz := 4) 1 (rs ++ es).length (tlA a cap) rfl Tryz.underlying23 rfl rfl rfl rfl ⟨rfl, by omega, by omega⟩ (by omega) rfl ?_
 refine wX ?_
 refine loopS Nat (fun i => i ≤ (rs ++ es).length) (fun i => mkS Tryz.f125.ntmps 0 [(0, .c (.v (.slice a ((rs ++ es).length + 1) cap))), (17, .c (.v (.slice (tlA a cap) (rs ++ es).length (cap - 1)))), (18, .c (.v (.int .i64 ((rs ++ es).length : Int)))), (19, .c (.v (.int .i64 (i : Int))))]) (fun i => (rs ++ es).length - i) rfl (fun _ => rfl) 0 (Nat.zero_le _) ?_ fun i hi => ?_
 ·exact wKK
 refine wX ?_
 refine brd_dec (fun h3 => ?_) (fun h3 => ?_)
 ·obtain ⟨k, hki⟩ : ∃ k, (rs ++ es)[i]? = some k := ⟨_, List.getElem?_eq_getElem (by omega)⟩
  have hkm := List.mem_of_getElem? hki
  have hkk := htk.k k hkm
  have hta := isT htk.nil hki
  refine wX ?_
  refine Nd.mk ⟨hta, by omega, by omega⟩ ?_
  refine wX ?_
  rw [Int.toNat_natCast]
  by_cases hir : i < rs.length
  ·have hkr : k ∈ rs := by rw [List.getElem?_append_left hir] at hki; exact List.mem_of_getElem? hki
   obtain ⟨hks, hkv⟩ := hr k hkr
   cases hkv with
   | res hxn hml hqv hqo =>
    rename_i x a' c' m q
    have hlm : (m ++ [q]).length = m.length + 1 := by simp
    have hkl := hkk.len
    have hkc : (m ++ [q]).length ≤ c' := hkk.cap
    have hxl : x.length ≤ 1048576 := hkk.str
    have hmk : LsK a' c' m := by have := hkk.ls.take m.length; simpa using this
    have hma : a'.isSome = true := kid_some (t := ⟨41, x, 0, a', m ++ [q], c'⟩) (i := m.length) (k := q) hkk (by simp)
    have hin : ∀ p ∈ m ++ [q], p.sz < n := fun p hp => by
     have := sz_kid (t := (⟨41, x, 0, a', m ++ [q], c'⟩ : TP)) (k := p) hp
     omega
    have hmw : IntKind.i64.wrap (((m ++ [q]).length : Int) - 1) = ((m.length : Nat) : Int) := by
     have : (m ++ [q]).length ≤ 1048576 := hkl
     rw [wrap_i64 (by omega)]; omega
    rcases hxn with hx0 | hxn
    ·-- a Rescue; refine brd_intro (fun h => absurd hx0 (by have h : (!(x == [])) = true := h; simpa using h)) (fun _ => ?_); (first | refine wX ?_ | exact wZ): its name's way
     refine LdN.agg (a := tlA a cap) (q := i * 4) [.int .i64 41, .string (bs x), .int .i64 0, .slice a' (m ++ [q]).length c'] rfl (fun w hw => (hw.1.2.tl hcap).1) rfl (fun j hj => nodesC_get (t := ⟨41, x, 0, a', m ++ [q], c'⟩) (rs ++ es) i j hj hki) ?_
     refine wX ?_
     refine brd_intro (fun h => absurd hx0 (by have h : (!(x == [])) = true := h; simpa using h)) (fun _ => ?_); (first | refine wX ?_ | exact wZ)
     rw [hmw]
     refine wX ?_
     refine ReadW.slc_hi rfl (by kernel_rfl) rfl rfl (by omega) ?_
     rw [Int.toNat_natCast]
     refine wX ?_
     refine call1 (exprs_c hx (l := m) (fun p hp => ⟨hin p (by simp [hp]), hml p hp⟩) a' c' hmk _ (fun w hw => ⟨hw.1.1, ?_⟩)) ?_
     ·have := ((hw.1.2.tl hcap).2 _ hkm).ls.take m.length
      simpa using this
     refine wX ?_
     refine Nd.mk ⟨hma, by omega, by omega⟩ ?_
     refine wX ?_
     refine LdN.agg (a := a') (q := m.length * 4) (nodeC q) rfl (fun w hw => ((hw.1.2.tl hcap).2 _ hkm).row) rfl (fun j hj => nodesC_get (m ++ [q]) m.length j hj (by simp)) ?_
     refine wX ?_
     refine call1 (seq_c hx (hin q (by simp)) (hkk.kid (by simp)) hqv hqo _ (fun w hw => ⟨hw.1.1, ((hw.1.2.tl hcap).2 _ hkm).kid (by simp)⟩)) ?_
     refine wX ?_
     refine ⟨i + 1, by show i + 1 ≤ _; omega, by show (rs ++ es).length - (i + 1) < (rs ++ es).length - i; omega, ?_, wHH⟩
     exact wKK
    ·have hne := lo_ne hxn
     refine LdN.agg (a := tlA a cap) (q := i * 4) [.int .i64 41, .string (bs x), .int .i64 0, .slice a' (m ++ [q]).length c'] rfl (fun w hw => (hw.1.2.tl hcap).1) rfl (fun j hj => nodesC_get (t := ⟨41, x, 0, a', m ++ [q], c'⟩) (rs ++ es) i j hj hki) ?_
     refine wX ?_
     refine brd_intro (fun _ => ?_) (fun h => absurd (eq_of_beq (show (x == []) = true by have h : (!(x == [])) = false := h; simpa using h)) hne); (first | refine wX ?_ | exact wZ); refine call1 (isLocal_c x hxl hxn _ (fun w hw => hw.1.1)) ?_; (first | refine wX ?_ | exact wZ)
     rw [hmw]
     refine wX ?_
     refine ReadW.slc_hi rfl (by kernel_rfl) rfl rfl (by omega) ?_
     rw [Int.toNat_natCast]
     refine wX ?_
     refine call1 (exprs_c hx (l := m) (fun p hp => ⟨hin p (by simp [hp]), hml p hp⟩) a' c' hmk _ (fun w hw => ⟨hw.1.1, ?_⟩)) ?_
     ·have := ((hw.1.2.tl hcap).2 _ hkm).ls.take m.length
      simpa using this
     refine wX ?_
     refine Nd.mk ⟨hma, by omega, by omega⟩ ?_
     refine wX ?_
     refine LdN.agg (a := a') (q := m.length * 4) (nodeC q) rfl (fun w hw => ((hw.1.2.tl hcap).2 _ hkm).row) rfl (fun j hj => nodesC_get (m ++ [q]) m.length j hj (by simp)) ?_
     refine wX ?_
     refine call1 (seq_c hx (hin q (by simp)) (hkk.kid (by simp)) hqv hqo _ (fun w hw => ⟨hw.1.1, ((hw.1.2.tl hcap).2 _ hkm).kid (by simp)⟩)) ?_
     refine wX ?_
     refine ⟨i + 1, by show i + 1 ≤ _; omega, by show (rs ++ es).length - (i + 1) < (rs ++ es).length - i; omega, ?_, wHH⟩
     exact wKK
  ·have hie : i = rs.length := by rw [List.length_append] at h3 hi; omega
   subst hie
   have hel : es = [k] := by
    rw [List.getElem?_append_right (Nat.le_refl _), Nat.sub_self] at hki
    match es, h1, hki with
    | [p], _, hki => obtain rfl := Option.some.inj hki; rfl
   subst hel
   obtain ⟨hks, hkv⟩ := he k (List.mem_singleton.2 rfl)
   have hrl : (rs ++ [k]).length = rs.length + 1 := by simp
   rw [hrl] at hll hcap hle ⊢
   cases hkv with
   | ens hqv hqo =>
    rename_i a' c' q _
    have hqs : q.sz < n := sz_one hks
    have hma : a'.isSome = true := kid_some (i := 0) hkk rfl
    refine LdN.agg (a := tlA a cap) (q := rs.length * 4) [.int .i64 42, .string (bs []), .int .i64 0, .slice a' 1 c'] rfl (fun w hw => (hw.1.2.tl (by rw [hrl]; exact hcap)).1) rfl (fun j hj => nodesC_get (t := ⟨42, [], 0, a', [q], c'⟩) (rs ++ [⟨42, [], 0, a', [q], c'⟩]) rs.length j hj (by simp)) ?_
    refine wX ?_
    have hw2 : IntKind.i64.wrap ((rs.length : Int) + 2) = ((rs.length + 1 + 1 : Nat) : Int) := by rw [wrap_i64 (by omega)]; omega
    rw [hw2]
    refine brd_ne (fun h => absurd rfl h) (fun _ => ?_)
    refine wX ?_
    refine call1 (unnamed_c (⟨42, [], 0, a', [q], c'⟩ : TP) rfl rfl _) ?_
    refine wX ?_
    refine Nd.mk ⟨hma, by decide, by decide⟩ ?_
    refine wX ?_
    have hft : ∀ w, LsF a (s :: (rs ++ [⟨42, [], 0, a', [q], c'⟩])) w → TreeF w ⟨42, [], 0, a', [q], c'⟩ := fun w h => h.2 _ (by simp)
    refine LdN.agg (a := a') (q := 0) (nodeC q) rfl (fun w hw => (hft w hw.1.2).row) rfl (fun j hj => nodesC_get [q] 0 j hj rfl) ?_
    refine wX ?_
    refine call1 (seq_c hx hqs (hkk.kid (List.mem_singleton.2 rfl)) hqv hqo _ (fun w hw => ⟨hw.1.1, (hft w hw.1.2).kid (List.mem_singleton.2 rfl)⟩)) ?_
    refine wX ?_
    refine ⟨rs.length + 1, Nat.le_refl _, by omega, ?_, wHH⟩
    (repeat' (first | exact trivial | refine And.intro (by with_reducible rfl) ?_ | (with_reducible exact wkC_refl _) | (with_reducible exact wkCs_refl _) | refine And.intro ?_ ?_))
    all_goals first | rfl | exact av_int (by rw [wrap_i64 (by omega)]; omega) | (rw [hrl])
 ·exact wZ
end Go.Proofs.YtpikpjlhdkkigaaGreatDoor
