/-
  Lemmas (MP13 MC6 MC8 MC9 MC10 MC11 MP6 MP7 MP8 MP9 MP10 MP11 MP14 MP15 MC12 MC13 Ax60 MC14).
-/
import Derived.Test.YtgogonnnojcioaaGreatDoorMsh6
set_option linter.unusedVariables false
set_option linter.unusedSimpArgs false
/-
 Plain: the program's reader gives what is said: cells.
-/
namespace Go.Marshal
open Go.Core

theorem next_dead {st : PS} (h : st.e ≠ 0) : nextM st = (0, st) := by unfold nextM; rw [if_pos h]
theorem sym_dead {st : PS} (h : st.e ≠ 0) : (symM 0 st).2 = st := by
 unfold symM
 rw [if_neg (by decide), if_neg (by decide), fail_dead h]
theorem sym_dead_e {x : UInt8} {st : PS} (h : st.e ≠ 0) : (symM x st).2.e = st.e := (Ref.sym x).dead st h
theorem Ref.items {f : St → Except Int (Int × St)} {g : PS → Int × PS} (hf : Ref f g) : ∀ (n : Nat) (l : List Int), Ref (itemsA f n l) (itemsM g n l)
 | 0, l => Ref.ret l
 | n + 1, l => by
  have h := Ref.bnd hf (G := fun i st => itemsA f n (l ++ [i]) st) (N := fun i st => itemsM g n (l ++ [i]) st) (fun i => Ref.items hf n (l ++ [i])) (fun i st hd => (Ref.items hf n (l ++ [i])).dead st hd)
  refine ⟨fun st a st' h0 hs => ?_, fun st e h0 hs => ?_, fun st hd => ?_⟩
  ·have := h.ok st a st' h0 hs
   unfold itemsM
   rw [if_pos h0]
   exact this
  ·have := h.err st e h0 hs
   unfold itemsM
   rw [if_pos h0]
   exact this
  ·unfold itemsM
   rw [if_neg hd]
theorem Ref.guard {P : Prop} [Decidable P] {β : Type} {G : St → Except Int (β × St)} {N : PS → β × PS} (hG : Ref G N) (hd : ∀ st, st.e ≠ 0 → (N st).2.e = st.e) : Ref (fun st => if P then G st else .error 4) (fun st => N (if st.e = 0 ∧ ¬ P then failM st 4 else st)) := by
 refine ⟨fun st a st' h0 h => ?_, fun st e h0 h => ?_, fun st h => ?_⟩
 ·by_cases hp : P
  ·rw [if_pos hp] at h
   rw [if_neg (by simp [hp])]
   exact hG.ok st a st' h0 h
  ·rw [if_neg hp] at h; cases h
 ·by_cases hp : P
  ·rw [if_pos hp] at h
   rw [if_neg (by simp [hp])]
   exact hG.err st e h0 h
  ·rw [if_neg hp] at h
   cases h
   rw [if_pos ⟨h0, hp⟩]
   have := hd (failM st 4) (by rw [fail_e h0]; decide)
   rw [this, fail_e h0]
   exact ⟨rfl, by decide⟩
 ·rw [if_neg (by simp [h])]
  exact hd st h
theorem Ref.attrs {f : St → Except Int (Int × St)} {g : PS → Int × PS} (hf : Ref f g) : ∀ (n : Nat) (ns : List B) (l : List Int), Ref (attrsA f n ns l) (attrsM g n ns l)
 | 0, ns, l => Ref.ret (ns, l)
 | n + 1, ns, l => by
  have h := Ref.bnd Ref.next (G := fun x st => Marshal.bnd (symS x st) fun t st => if Go.Scan.iiB t = true ∧ t ∉ ns then Marshal.bnd (f st) fun i st => attrsA f n (ns ++ [t]) (l ++ [i]) st else .error 4)
   (N := fun x st => (fun t st => (fun st => attrsM g n (ns ++ [t]) (l ++ [(g st).1]) (g st).2) (if st.e = 0 ∧ ¬ (Go.Scan.iiB t = true ∧ t ∉ ns) then failM st 4 else st)) (symM x st).1 (symM x st).2)
   (fun x => Ref.bnd (Ref.sym x) (fun t => Ref.guard (Ref.bnd hf (fun i => Ref.attrs hf n (ns ++ [t]) (l ++ [i])) (fun i st hd => (Ref.attrs hf n (ns ++ [t]) (l ++ [i])).dead st hd)) (fun st hd => by
    rw [(Ref.attrs hf n (ns ++ [t]) (l ++ [(g st).1])).dead _ (by rw [hf.dead st hd]; exact hd), hf.dead st hd]))
    (fun t st hd => by
     rw [if_neg (by simp [hd])]
     rw [(Ref.attrs hf n (ns ++ [t]) (l ++ [(g st).1])).dead _ (by rw [hf.dead st hd]; exact hd), hf.dead st hd]))
   (fun x st hd => by
    have h1 := sym_dead_e (x := x) hd
    simp only
    rw [if_neg (by simp [h1, hd])]
    rw [(Ref.attrs hf n _ _).dead _ (by rw [hf.dead _ (by rw [h1]; exact hd), h1]; exact hd), hf.dead _ (by rw [h1]; exact hd), h1])
  have key : ∀ st : PS, st.e = 0 → attrsM g (n + 1) ns l st = (fun x st => (fun t st => (fun st => attrsM g n (ns ++ [t]) (l ++ [(g st).1]) (g st).2) (if st.e = 0 ∧ ¬ (Go.Scan.iiB t = true ∧ t ∉ ns) then failM st 4 else st)) (symM x st).1 (symM x st).2) (nextM st).1 (nextM st).2 := fun st h0 => by
   conv => lhs; unfold attrsM
   rw [if_pos h0]
   have e : (nameM ns st).2 = if (symM (nextM st).1 (nextM st).2).2.e = 0 ∧ ¬ (Go.Scan.iiB (symM (nextM st).1 (nextM st).2).1 = true ∧ (symM (nextM st).1 (nextM st).2).1 ∉ ns) then failM (symM (nextM st).1 (nextM st).2).2 4 else (symM (nextM st).1 (nextM st).2).2 := by
    unfold nameM
    simp only
    by_cases h1 : (symM (nextM st).1 (nextM st).2).2.e = 0 ∧ ((symM (nextM st).1 (nextM st).2).1 ∈ ns ∨ Go.Scan.iiB (symM (nextM st).1 (nextM st).2).1 = false)
    ·rw [if_pos h1, if_pos]
     refine ⟨h1.1, fun h2 => ?_⟩
     rcases h1.2 with h3 | h3
     ·exact h2.2 h3
     ·rw [h2.1] at h3; cases h3
    ·rw [if_neg h1, if_neg]
     rintro ⟨h2, h3⟩
     refine h1 ⟨h2, ?_⟩
     by_cases h4 : (symM (nextM st).1 (nextM st).2).1 ∈ ns
     ·exact .inl h4
     ·refine .inr ?_
      cases h5 : Go.Scan.iiB (symM (nextM st).1 (nextM st).2).1 with
      | false => rfl
      | true => exact absurd ⟨h5, h4⟩ h3
   rw [e]
   rfl
  refine ⟨fun st a st' h0 hs => ?_, fun st e h0 hs => ?_, fun st hd => ?_⟩
  ·rw [key st h0]
   exact h.ok st a st' h0 hs
  ·rw [key st h0]
   exact h.err st e h0 hs
  ·unfold attrsM
   rw [if_neg hd]
theorem attrs_dead {g : PS → Int × PS} (n : Nat) (ns : List B) (l : List Int) {st : PS} (h : st.e ≠ 0) : attrsM g n ns l st = ((ns, l), st) := by
 cases n with
 | zero => rfl
 | succ n => unfold attrsM; rw [if_neg h]
theorem items_dead {g : PS → Int × PS} (n : Nat) (l : List Int) {st : PS} (h : st.e ≠ 0) : itemsM g n l st = (l, st) := by
 cases n with
 | zero => rfl
 | succ n => unfold itemsM; rw [if_neg h]
theorem Ref.inner {f : St → Except Int (Int × St)} {g : PS → Int × PS} (hf : Ref f g) {x : UInt8} (hx : x ∈ begins) : Ref (innerF f x) (innerM g x) := by
 have hnum : ∀ m, Ref (numS m) (numM m) := Ref.num
 unfold begins at hx
 simp only [List.mem_cons, List.not_mem_nil, or_false] at hx
 rcases hx with rfl | rfl | rfl | rfl | rfl | rfl | rfl | rfl | rfl | rfl
 ·exact Ref.ret _
 ·exact Ref.ret _
 ·exact Ref.ret _
 ·exact (Ref.num (2 * maxN)).map fun n => (⟨3, unsgn n, [], [], []⟩ : Cell)
 ·exact (Ref.text maxN).map fun t => (⟨4, 0, t, [], []⟩ : Cell)
 ·exact (Ref.sym 58).map fun t => (⟨5, 0, t, [], []⟩ : Cell)
 ·exact (Ref.sym 59).map fun t => (⟨5, 0, t, [], []⟩ : Cell)
 ·exact Ref.bnd (Ref.num maxN) (N := fun n st => ((⟨6, 0, [], [], (itemsM g n [] st).1⟩ : Cell), (itemsM g n [] st).2)) (fun n => (Ref.items hf n []).map fun l => (⟨6, 0, [], [], l⟩ : Cell)) (fun n st hd => by rw [items_dead n [] hd])
 ·exact Ref.bnd (Ref.num maxN) (N := fun n st => ((⟨7, 0, [], [], (itemsM g (2 * n) [] st).1⟩ : Cell), (itemsM g (2 * n) [] st).2)) (fun n => (Ref.items hf (2 * n) []).map fun l => (⟨7, 0, [], [], l⟩ : Cell)) (fun n st hd => by rw [items_dead _ [] hd])
 ·have h := Ref.bnd Ref.next (G := fun y st => Marshal.bnd (symS y st) fun t st => if Go.Scan.icB t = true then Marshal.bnd (numS maxN st) fun n st => Marshal.bnd (attrsA f n [] [] st) fun p st => .ok ((⟨8, 0, t, p.1, p.2⟩ : Cell), st) else .error 4)
   (N := fun y st => (fun t st => (fun st => (fun n st => ((⟨8, 0, t, (attrsM g n [] [] st).1.1, (attrsM g n [] [] st).1.2⟩ : Cell), (attrsM g n [] [] st).2)) (numM maxN st).1 (numM maxN st).2) (if st.e = 0 ∧ ¬ (Go.Scan.icB t = true) then failM st 4 else st)) (symM y st).1 (symM y st).2)
   (fun y => Ref.bnd (Ref.sym y) (fun t => Ref.guard (Ref.bnd (Ref.num maxN) (fun n => (Ref.attrs hf n [] []).map fun p => (⟨8, 0, t, p.1, p.2⟩ : Cell)) (fun n st hd => by rw [attrs_dead n [] [] hd])) (fun st hd => by rw [num_dead hd, attrs_dead _ _ _ hd]))
    (fun t st hd => by
     rw [if_neg (by simp [hd]), num_dead hd, attrs_dead _ _ _ hd]))
   (fun y st hd => by
    have h1 := sym_dead_e (x := y) hd
    simp only
    rw [if_neg (by simp [h1, hd]), num_dead (by rw [h1]; exact hd), attrs_dead _ _ _ (by rw [h1]; exact hd), h1])
  have e : innerM g 111 = fun st => (fun y st => (fun t st => (fun st => (fun n st => ((⟨8, 0, t, (attrsM g n [] [] st).1.1, (attrsM g n [] [] st).1.2⟩ : Cell), (attrsM g n [] [] st).2)) (numM maxN st).1 (numM maxN st).2) (if st.e = 0 ∧ ¬ (Go.Scan.icB t = true) then failM st 4 else st)) (symM y st).1 (symM y st).2) (nextM st).1 (nextM st).2 := by
   funext st
   show objM g st = _
   unfold objM
   have e2 : (classM st).2 = if (symM (nextM st).1 (nextM st).2).2.e = 0 ∧ ¬ (Go.Scan.icB (symM (nextM st).1 (nextM st).2).1 = true) then failM (symM (nextM st).1 (nextM st).2).2 4 else (symM (nextM st).1 (nextM st).2).2 := by
    unfold classM
    simp only [Bool.not_eq_true]
   rw [e2]
   rfl
  rw [e]
  exact h
end Go.Marshal

/-
 Contracts: the reader's bytes (program).
-/
namespace Go.Proofs.YtgogonnnojcioaaGreatDoor
open Go.AX Go.RowKit Go.Core Go.Marshal
set_option maxRecDepth 20000

structure RdP where
 m : List CellP
 ga : Option Addr
 gc : Nat
 ca : Option Addr
 cc : Nat
 sa : Option Addr
 sc : Nat
def rdC (st : PS) (p : RdP) : List Value := [.string (bs st.s), .slice p.ga p.m.length p.gc, .slice p.ca st.cells.length p.cc, .slice p.sa st.ss.length p.sc, .int .i64 st.e]
def rdE (rb : Nat) (st : PS) (p : RdP) : List Ent :=
 [.app 84 5 (rdC st p) (some ⟨rb, 0, none⟩) 1 1, .app 57 5 (grC p.m) p.ga p.m.length p.gc, .fact (fun w => ∀ q ∈ p.m, CellF q w), .app 3 1 (iC st.cells) p.ca st.cells.length p.cc, .app 9 1 (strC st.ss) p.sa st.ss.length p.sc]
theorem rdE_ok (rb : Nat) (st : PS) (p : RdP) : okH (rdE rb st p).length (rdE rb st p) := okHB_eq rfl
theorem fail_m (rb : Nat) (st : PS) (p : RdP) (e : Int) : SpecH Tryz.prog 63 [.c (.v (.pointer (some ⟨rb, 0, none⟩))), .c (.v (.int .i64 e))] (rdE rb st p) (RetG (ι := Unit) (fun _ => True) (fun _ => .tuple #[]) fun _ => rdE rb (failM st e) p) := by
 refine ownC hm Tryz.func63 (by kernel_rfl) rfl rfl (fun _ _ => rdE_ok _ _ _) (fun _ _ => Nat.le_refl _) ?_
 (first | refine wX ?_ | exact wZ)
 refine LdN.one (a := some ⟨rb, 0, none⟩) (q := 4) (.int .i64 st.e) rfl (fun w hw => hw.1) rfl ?_
 (first | refine wX ?_ | exact wZ)
 refine brd_eq (fun h => ?_) (fun h => ?_)
 ·have e0 : failM st e = { st with e := e } := by unfold failM; rw [if_pos (by simpa using h)]
  rw [e0]
  (first | refine wX ?_ | exact wZ)
  refine EffW.appTo (i := 0) (q := 4) (ys := [_]) (rdC ({ st with e := e }) p) 5 rfl rfl rfl rfl rfl rfl rfl (Nat.le_of_ble_eq_true rfl) rfl rfl ?_
  (first | refine wX ?_ | exact wZ)
  exact ⟨(), trivial, rfl, wkH_refl _⟩
 ·have e0 : failM st e = st := by unfold failM; rw [if_neg (by simpa using h)]
  rw [e0]
  (first | refine wX ?_ | exact wZ)
  exact ⟨(), trivial, rfl, wkH_refl _⟩
theorem fail_mD (rb : Nat) (st : PS) (p : RdP) (h : st.e ≠ 0) (e : Int) : failM st e = st := by unfold failM; rw [if_neg h]
theorem next_m (rb : Nat) (st : PS) (p : RdP) : SpecH Tryz.prog 62 [.c (.v (.pointer (some ⟨rb, 0, none⟩)))] (rdE rb st p) (RetG (ι := Unit) (fun _ => True) (fun _ => .int .u8 ((nextM st).1.toNat : Int)) fun _ => rdE rb (nextM st).2 p) := by
 refine ownC hm Tryz.func62 (by kernel_rfl) rfl rfl (fun _ _ => rdE_ok _ _ _) (fun _ _ => Nat.le_refl _) ?_
 by_cases he : st.e = 0
 ·obtain ⟨s, g, cells, ss, e⟩ := st
  simp only at he
  subst he
  (first | refine wX ?_ | exact wZ)
  refine LdN.one (a := some ⟨rb, 0, none⟩) (q := 4) (.int .i64 0) rfl (fun w hw => hw.1) rfl ?_
  (first | refine wX ?_ | exact wZ)
  refine LdN.one (a := some ⟨rb, 0, none⟩) (q := 0) (.string (bs s)) rfl (fun w hw => hw.1) rfl ?_
  cases s with
  | nil =>
   (first | refine wX ?_ | exact wZ)
   refine callG (fail_m rb ⟨[], g, cells, ss, 0⟩ p 14) [0, 1, 2, 3, 4] rfl ⟨rfl, rfl, rfl, rfl, rfl, trivial⟩ rfl fun _ _ => ?_
   (first | refine wX ?_ | exact wZ)
   exact ⟨(), trivial, rfl, wkH_refl _⟩
  | cons x s =>
   (first | refine wX ?_ | exact wZ)
   refine LdN.one (a := some ⟨rb, 0, none⟩) (q := 0) (.string (bs (x :: s))) rfl (fun w hw => hw.1) rfl ?_
   (first | refine wX ?_ | exact wZ)
   have hz : 0 < (bs (x :: s)).size := by rw [bs_size]; exact Nat.succ_pos _
   refine Nd.mk ⟨Int.le_refl _, by omega⟩ ?_
   (first | refine wX ?_ | exact wZ)
   refine LdN.one (a := some ⟨rb, 0, none⟩) (q := 0) (.string (bs (x :: s))) rfl (fun w hw => hw.1) rfl ?_
   (first | refine wX ?_ | exact wZ)
   refine ReadW.str_l rfl (by kernel_rfl) rfl rfl ⟨by decide, by omega⟩ ?_
   have e1 : (bs (x :: s)).extract (Int.toNat 1) (bs (x :: s)).size = bs s := by rw [bs_size]; exact bs_drop (x :: s) 1
   have e2 : byteAt (bs (x :: s)) (Int.toNat 0) = (x.toNat : Int) := rfl
   rw [e1, e2]
   (first | refine wX ?_ | exact wZ)
   refine EffW.appTo (i := 0) (q := 0) (ys := [_]) (rdC (⟨s, g, cells, ss, 0⟩) p) 5 rfl rfl rfl rfl rfl rfl rfl (Nat.le_of_ble_eq_true rfl) rfl rfl ?_
   (first | refine wX ?_ | exact wZ)
   exact ⟨(), trivial, rfl, wkH_refl _⟩
 ·have e0 : nextM st = (0, st) := by unfold nextM; rw [if_pos he]
  rw [e0]
  (first | refine wX ?_ | exact wZ)
  refine LdN.one (a := some ⟨rb, 0, none⟩) (q := 4) (.int .i64 st.e) rfl (fun w hw => hw.1) rfl ?_
  (first | refine wX ?_ | exact wZ)
  rw [show (st.e != 0) = true by simpa using he]
  (first | refine wX ?_ | exact wZ)
  refine callG (fail_m rb st p 14) [0, 1, 2, 3, 4] rfl ⟨rfl, rfl, rfl, rfl, rfl, trivial⟩ rfl fun _ _ => ?_
  rw [fail_mD rb st p he]
  (first | refine wX ?_ | exact wZ)
  exact ⟨(), trivial, rfl, wkH_refl _⟩
end Go.Proofs.YtgogonnnojcioaaGreatDoor

/-
 Contracts: the reader's numbers (program).
-/
namespace Go.Proofs.YtgogonnnojcioaaGreatDoor
open Go.AX Go.RowKit Go.Core Go.Marshal
set_option maxRecDepth 20000

theorem rdF_cons (most i n : Nat) (x : UInt8) (s : List UInt8) : rdF most i n (x :: s) = if i = 0 ∧ x = 128 ∨ 9 ≤ i then .error 4 else if x.toNat < 128 then (if n * 128 + x.toNat % 128 ≤ most then .ok (n * 128 + x.toNat % 128, s) else .error 4) else rdF most (i + 1) (n * 128 + x.toNat % 128) s := by
 conv => lhs; unfold rdF
theorem rdQ_cons (i : Nat) (x : UInt8) (s : List UInt8) : rdQ i (x :: s) = if i = 0 ∧ x = 128 ∨ 9 ≤ i then s else if x.toNat < 128 then s else rdQ (i + 1) s := by
 conv => lhs; unfold rdQ
theorem and127 (x : UInt8) : IntKind.u8.wrap ((BitVec.ofInt IntKind.u8.bits (x.toNat : Int) &&& BitVec.ofInt IntKind.u8.bits 127).toNat : Int) = ((x.toNat % 128 : Nat) : Int) := by
 show IntKind.u8.wrap ((BitVec.ofInt 8 (x.toNat : Int) &&& BitVec.ofInt 8 127).toNat : Int) = _
 have hx := x.toNat_lt
 rw [BitVec.toNat_and, BitVec.toNat_ofInt, BitVec.toNat_ofInt]
 have e1 : ((x.toNat : Int) % ((2 ^ 8 : Nat) : Int)).toNat = x.toNat := by omega
 have e2 : ((127 : Int) % ((2 ^ 8 : Nat) : Int)).toNat = 2 ^ 7 - 1 := by decide
 rw [e1, e2, Nat.and_two_pow_sub_one_eq_mod]
 rw [wrap_u8 (by omega)]
theorem step7 (n c : Nat) (hn : n < 72057594037927936) (hc : c < 128) : IntKind.i64.wrap ((BitVec.ofInt IntKind.i64.bits (IntKind.i64.wrap ((n : Int) * 2 ^ min (Int.toNat 7) IntKind.i64.bits)) ||| BitVec.ofInt IntKind.i64.bits (IntKind.i64.wrap (c : Int))).toNat : Int) = ((n * 128 + c : Nat) : Int) := by
 rw [show (2 : Int) ^ min (Int.toNat 7) IntKind.i64.bits = 128 from rfl, wrap_i64 (x := (n : Int) * 128) (by omega), wrap_i64 (x := (c : Int)) (by omega)]
 show IntKind.i64.wrap ((BitVec.ofInt 64 ((n : Int) * 128) ||| BitVec.ofInt 64 (c : Int)).toNat : Int) = _
 rw [BitVec.toNat_or, BitVec.toNat_ofInt, BitVec.toNat_ofInt]
 have e1 : (((n : Int) * 128) % ((2 ^ 64 : Nat) : Int)).toNat = n * 128 := by omega
 have e2 : ((c : Int) % ((2 ^ 64 : Nat) : Int)).toNat = c := by omega
 rw [e1, e2]
 have := Nat.shiftLeft_add_eq_or_of_lt (b := c) (i := 7) (by omega) n
 rw [Nat.shiftLeft_eq] at this
 rw [show n * 128 = n * 2 ^ 7 from rfl, ← this, wrap_i64 (by omega)]
theorem next_cons (rb : Nat) (x : UInt8) (s : List UInt8) (g : List Cell) (cells : List Int) (ss : List (List UInt8)) (p : RdP) : SpecH Tryz.prog 62 [.c (.v (.pointer (some ⟨rb, 0, none⟩)))] (rdE rb ⟨x :: s, g, cells, ss, 0⟩ p) (RetG (ι := Unit) (fun _ => True) (fun _ => .int .u8 (x.toNat : Int)) fun _ => rdE rb ⟨s, g, cells, ss, 0⟩ p) :=
 next_m rb ⟨x :: s, g, cells, ss, 0⟩ p
theorem number_m (rb : Nat) (st : PS) (p : RdP) (most : Nat) (hm2 : most ≤ 2000000000000000) : SpecH Tryz.prog 87 [.c (.v (.pointer (some ⟨rb, 0, none⟩))), .c (.v (.int .i64 (most : Int)))] (rdE rb st p) (RetG (ι := Unit) (fun _ => True) (fun _ => .int .i64 ((numM most st).1 : Int)) fun _ => rdE rb (numM most st).2 p) := by
  refine ownC hm Tryz.func87 (by kernel_rfl) rfl rfl (fun _ _ => rdE_ok _ _ _) (fun _ _ => Nat.le_refl _) ?_
  by_cases he : st.e = 0
  · obtain ⟨s0, g, cells, ss, e⟩ := st
    simp only at he
    subst he
    (first | refine wX ?_ | exact wZ)
    refine LoopN.intro (Nat × Nat × List UInt8) (fun ⟨i, n, s⟩ => rdF most i n s = rdF most 0 0 s0 ∧ rdQ i s = rdQ 0 s0 ∧ i ≤ 9 ∧ n < 128 ^ i)
      (fun ⟨i, n, _⟩ => mkS Tryz.f87.ntmps 0 [(0, .c (.v (.pointer (some ⟨rb, 0, none⟩)))), (1, .c (.v (.int .i64 (most : Int)))), (4, .c (.v (.int .i64 0))), (5, .c (.v (.int .i64 (n : Int)))), (6, .c (.v (.int .i64 (i : Int))))])
      (fun ⟨_, _, s⟩ => rdE rb ⟨s, g, cells, ss, 0⟩ p) (fun ⟨_, _, s⟩ => s.length) [] rfl
      (fun _ => rfl) (fun _ => rfl) (fun _ _ => rdE_ok _ _ _) ⟨(0, 0, s0), ⟨rfl, rfl, by omega, by omega⟩, ?_, wkH_refl _⟩ ?_
    · exact wKK
    rintro ⟨i, n, s⟩ ⟨h1, h2, h3, h4⟩
    have hn : n < 9223372036854775808 := Nat.lt_of_lt_of_le h4 (Nat.le_trans (Nat.pow_le_pow_right (by decide) h3) (by decide))
    cases s with
    | nil =>
      (first | refine wX ?_ | exact wZ)
      refine callG (next_m rb ⟨[], g, cells, ss, 0⟩ p) [0, 1, 2, 3, 4] rfl ⟨rfl, rfl, rfl, rfl, rfl, trivial⟩ rfl fun _ _ => ?_
      have e0 : numM most ⟨s0, g, cells, ss, 0⟩ = (0, ⟨[], g, cells, ss, 14⟩) := by
        unfold numM rd
        rw [if_neg (by show ¬ (0 : Int) ≠ 0; decide)]
        simp only
        rw [← h1, ← h2]
        rfl
      rw [e0]
      (first | refine wX ?_ | exact wZ)
      refine LdN.one (a := some ⟨rb, 0, none⟩) (q := 4) (.int .i64 14) rfl (fun w hw => hw.1) rfl ?_
      (first | refine wX ?_ | exact wZ)
      exact ⟨(), trivial, rfl, wkH_refl _⟩
    | cons x s =>
      have hx128 : ((x.toNat : Int) == 128) = decide (x = 128) := by
        by_cases h : x = 128
        · subst h; rfl
        · rw [decide_eq_false h, beq_eq_false_iff_ne]
          intro h5
          exact h (UInt8.toNat_inj.1 (by have : x.toNat = 128 := by omega
                                         rw [this]; rfl))
      have bad : (i = 0 ∧ x = 128 ∨ 9 ≤ i) → numM most ⟨s0, g, cells, ss, 0⟩ = (0, ⟨s, g, cells, ss, 4⟩) := by
        intro hb
        unfold numM rd
        rw [if_neg (by show ¬ (0 : Int) ≠ 0; decide)]
        simp only
        rw [← h1, ← h2]
        unfold rdF rdQ
        rw [if_pos hb, if_pos hb]
      (first | refine wX ?_ | exact wZ)
      refine callG (next_cons rb x s g cells ss p) [0, 1, 2, 3, 4] rfl ⟨rfl, rfl, rfl, rfl, rfl, trivial⟩ rfl fun _ _ => ?_
      (first | refine wX ?_ | exact wZ)
      refine LdN.one (a := some ⟨rb, 0, none⟩) (q := 4) (.int .i64 0) rfl (fun w hw => hw.1) rfl ?_
      (first | refine wX ?_ | exact wZ)
      by_cases hb : i = 0 ∧ x = 128 ∨ 9 ≤ i
      · rw [bad hb]
        rcases hb with ⟨rfl, rfl⟩ | hb
        · (first | refine wX ?_ | exact wZ)
          refine callG (fail_m rb ⟨s, g, cells, ss, 0⟩ p 4) [0, 1, 2, 3, 4] rfl ⟨rfl, rfl, rfl, rfl, rfl, trivial⟩ rfl fun _ _ => ?_
          (first | refine wX ?_ | exact wZ)
          exact ⟨(), trivial, rfl, wkH_refl _⟩
        · obtain rfl : i = 9 := by omega
          (first | refine wX ?_ | exact wZ)
          refine callG (fail_m rb ⟨s, g, cells, ss, 0⟩ p 4) [0, 1, 2, 3, 4] rfl ⟨rfl, rfl, rfl, rfl, rfl, trivial⟩ rfl fun _ _ => ?_
          (first | refine wX ?_ | exact wZ)
          exact ⟨(), trivial, rfl, wkH_refl _⟩
      · have f1 := h1
        have f2 := h2
        rw [rdF_cons, if_neg hb] at f1
        rw [rdQ_cons, if_neg hb] at f2
        have hi8 : i ≤ 8 := by omega
        have hn56 : n < 72057594037927936 := Nat.lt_of_lt_of_le h4 (Nat.le_trans (Nat.pow_le_pow_right (by decide) hi8) (by decide))
        by_cases hi : i = 0
        · subst hi
          have hx : x ≠ 128 := fun h => hb (.inl ⟨rfl, h⟩)
          (first | refine wX ?_ | exact wZ)
          rw [hx128, decide_eq_false hx]
          (first | refine wX ?_ | exact wZ)
          rw [and127, step7 n (x.toNat % 128) hn56 (Nat.mod_lt _ (by decide))]
          refine brd_dec (fun h5 => ?_) (fun h5 => ?_)
          · have h6 : x.toNat < 128 := by omega
            rw [if_pos h6] at f1 f2
            (first | refine wX ?_ | exact wZ)
            refine brd_dec (fun h7 => ?_) (fun h7 => ?_)
            · have e0 : numM most ⟨s0, g, cells, ss, 0⟩ = (0, ⟨s, g, cells, ss, 4⟩) := by
                unfold numM rd
                rw [if_neg (by show ¬ (0 : Int) ≠ 0; decide)]
                simp only
                rw [← f1, ← f2, if_neg (by omega)]
              rw [e0]
              (first | refine wX ?_ | exact wZ)
              refine callG (fail_m rb ⟨s, g, cells, ss, 0⟩ p 4) [0, 1, 2, 3, 4] rfl ⟨rfl, rfl, rfl, rfl, rfl, trivial⟩ rfl fun _ _ => ?_
              (first | refine wX ?_ | exact wZ)
              exact ⟨(), trivial, rfl, wkH_refl _⟩
            · have e0 : numM most ⟨s0, g, cells, ss, 0⟩ = (n * 128 + x.toNat % 128, ⟨s, g, cells, ss, 0⟩) := by
                unfold numM rd
                rw [if_neg (by show ¬ (0 : Int) ≠ 0; decide)]
                simp only
                rw [← f1, ← f2, if_pos (by omega)]
              rw [e0]
              (first | refine wX ?_ | exact wZ)
              exact ⟨(), trivial, rfl, wkH_refl _⟩
          · have h6 : ¬ x.toNat < 128 := by omega
            rw [if_neg h6] at f1 f2
            (first | refine wX ?_ | exact wZ)
            refine ⟨(0 + 1, n * 128 + x.toNat % 128, s), ⟨f1, f2, by omega, by have h9 : n + 1 ≤ 128 ^ 0 := h4; rw [Nat.pow_succ]; have := Nat.mul_le_mul_right 128 h9; omega⟩, by show s.length < s.length + 1; omega, ?_, wHH⟩
            exact wKK
        · (first | refine wX ?_ | exact wZ)
          rw [show ((i : Int) == 0) = false by rw [beq_eq_false_iff_ne]; omega]
          (first | refine wX ?_ | exact wZ)
          rw [show ((i : Int) == 9) = false by rw [beq_eq_false_iff_ne]; omega]
          (first | refine wX ?_ | exact wZ)
          rw [and127, step7 n (x.toNat % 128) hn56 (Nat.mod_lt _ (by decide))]
          refine brd_dec (fun h5 => ?_) (fun h5 => ?_)
          · have h6 : x.toNat < 128 := by omega
            rw [if_pos h6] at f1 f2
            (first | refine wX ?_ | exact wZ)
            refine brd_dec (fun h7 => ?_) (fun h7 => ?_)
            · have e0 : numM most ⟨s0, g, cells, ss, 0⟩ = (0, ⟨s, g, cells, ss, 4⟩) := by
                unfold numM rd
                rw [if_neg (by show ¬ (0 : Int) ≠ 0; decide)]
                simp only
                rw [← f1, ← f2, if_neg (by omega)]
              rw [e0]
              (first | refine wX ?_ | exact wZ)
              refine callG (fail_m rb ⟨s, g, cells, ss, 0⟩ p 4) [0, 1, 2, 3, 4] rfl ⟨rfl, rfl, rfl, rfl, rfl, trivial⟩ rfl fun _ _ => ?_
              (first | refine wX ?_ | exact wZ)
              exact ⟨(), trivial, rfl, wkH_refl _⟩
            · have e0 : numM most ⟨s0, g, cells, ss, 0⟩ = (n * 128 + x.toNat % 128, ⟨s, g, cells, ss, 0⟩) := by
                unfold numM rd
                rw [if_neg (by show ¬ (0 : Int) ≠ 0; decide)]
                simp only
                rw [← f1, ← f2, if_pos (by omega)]
              rw [e0]
              (first | refine wX ?_ | exact wZ)
              exact ⟨(), trivial, rfl, wkH_refl _⟩
          · have h6 : ¬ x.toNat < 128 := by omega
            rw [if_neg h6] at f1 f2
            (first | refine wX ?_ | exact wZ)
            refine ⟨(i + 1, n * 128 + x.toNat % 128, s), ⟨f1, f2, by omega, by have h9 : n + 1 ≤ 128 ^ i := h4; rw [Nat.pow_succ]; have := Nat.mul_le_mul_right 128 h9; omega⟩, by show s.length < s.length + 1; omega, ?_, wHH⟩
            exact wKK
  · rw [num_dead he]
    (first | refine wX ?_ | exact wZ)
    refine LoopN.unroll 1 ?_
    (first | refine wX ?_ | exact wZ)
    refine callG (next_m rb st p) [0, 1, 2, 3, 4] rfl ⟨rfl, rfl, rfl, rfl, rfl, trivial⟩ rfl fun _ _ => ?_
    rw [next_dead he]
    (first | refine wX ?_ | exact wZ)
    refine LdN.one (a := some ⟨rb, 0, none⟩) (q := 4) (.int .i64 st.e) rfl (fun w hw => hw.1) rfl ?_
    (first | refine wX ?_ | exact wZ)
    refine brd_ne (fun _ => ?_) (fun h => absurd h he)
    (first | refine wX ?_ | exact wZ)
    exact ⟨(), trivial, rfl, wkH_refl _⟩
end Go.Proofs.YtgogonnnojcioaaGreatDoor

/-
 Contracts: the reader's texts (program).
-/
namespace Go.Proofs.YtgogonnnojcioaaGreatDoor
open Go.AX Go.RowKit Go.Core Go.Marshal
set_option maxRecDepth 20000

theorem text_rd (rb : Nat) (st : PS) (p : RdP) (most : Nat) : SpecH Tryz.prog 104 [.c (.v (.pointer (some ⟨rb, 0, none⟩))), .c (.v (.int .i64 (most : Int)))] (rdE rb st p) (RetG (ι := Unit) (fun _ => True) (fun _ => .string (bs (textM most st).1)) fun _ => rdE rb (textM most st).2 p) := by
 refine ownC hm Tryz.func104 (by kernel_rfl) rfl rfl (fun _ _ => rdE_ok _ _ _) (fun _ _ => Nat.le_refl _) ?_
 have hnum := number_m rb st p maxN (by decide)
 unfold textM
 generalize numM maxN st = q at hnum ⊢
 obtain ⟨n, st1⟩ := q
 simp only at hnum ⊢
 (first | refine wX ?_ | exact wZ)
 refine callG (hnum) [0, 1, 2, 3, 4] rfl ⟨rfl, rfl, rfl, rfl, rfl, trivial⟩ rfl fun _ _ => ?_
 (first | refine wX ?_ | exact wZ)
 refine LdN.one (a := some ⟨rb, 0, none⟩) (q := 4) (.int .i64 st1.e) rfl (fun w hw => hw.1) rfl ?_
 (first | refine wX ?_ | exact wZ)
 refine brd_ne (fun h1 => ?_) (fun h1 => ?_)
 ·rw [if_pos h1]
  (first | refine wX ?_ | exact wZ)
  exact ⟨(), trivial, rfl, wkH_refl _⟩
 rw [if_neg (fun h => h h1)]
 have e4 : ∀ e : Int, ({ st1 with e := e } : PS) = failM st1 e := fun e => by unfold failM; rw [if_pos h1]
 rw [e4 4, e4 14]
 (first | refine wX ?_ | exact wZ)
 refine brd_dec (fun h2 => ?_) (fun h2 => ?_)
 ·rw [if_pos (by omega)]
  (first | refine wX ?_ | exact wZ)
  refine callG (fail_m rb st1 p 4) [0, 1, 2, 3, 4] rfl ⟨rfl, rfl, rfl, rfl, rfl, trivial⟩ rfl fun _ _ => ?_
  (first | refine wX ?_ | exact wZ)
  exact ⟨(), trivial, rfl, wkH_refl _⟩
 rw [if_neg (by omega)]
 (first | refine wX ?_ | exact wZ)
 refine LdN.one (a := some ⟨rb, 0, none⟩) (q := 0) (.string (bs st1.s)) rfl (fun w hw => hw.1) rfl ?_
 (first | refine wX ?_ | exact wZ)
 have hsz := bs_size st1.s
 refine brd_dec (fun h3 => ?_) (fun h3 => ?_)
 ·rw [if_pos (by omega)]
  (first | refine wX ?_ | exact wZ)
  refine callG (fail_m rb st1 p 14) [0, 1, 2, 3, 4] rfl ⟨rfl, rfl, rfl, rfl, rfl, trivial⟩ rfl fun _ _ => ?_
  (first | refine wX ?_ | exact wZ)
  exact ⟨(), trivial, rfl, wkH_refl _⟩
 rw [if_neg (by omega)]
 (first | refine wX ?_ | exact wZ)
 refine LdN.one (a := some ⟨rb, 0, none⟩) (q := 0) (.string (bs st1.s)) rfl (fun w hw => hw.1) rfl ?_
 (first | refine wX ?_ | exact wZ)
 refine ReadW.str_h rfl (by kernel_rfl) rfl rfl ⟨by omega, by omega⟩ ?_
 rw [bs_take, Int.toNat_natCast]
 (first | refine wX ?_ | exact wZ)
 refine LdN.one (a := some ⟨rb, 0, none⟩) (q := 0) (.string (bs st1.s)) rfl (fun w hw => hw.1) rfl ?_
 (first | refine wX ?_ | exact wZ)
 refine ReadW.str_l rfl (by kernel_rfl) rfl rfl ⟨by omega, by omega⟩ ?_
 have e1 : (bs st1.s).extract (Int.toNat (n : Int)) (bs st1.s).size = bs (st1.s.drop n) := by rw [bs_size, Int.toNat_natCast]; exact bs_drop st1.s n
 rw [e1]
 (first | refine wX ?_ | exact wZ)
 refine EffW.appTo (i := 0) (q := 0) (ys := [_]) (rdC ({ st1 with s := st1.s.drop n }) p) 5 rfl rfl rfl rfl rfl rfl rfl (Nat.le_of_ble_eq_true rfl) rfl rfl ?_
 (first | refine wX ?_ | exact wZ)
 exact ⟨(), trivial, rfl, wkH_refl _⟩
end Go.Proofs.YtgogonnnojcioaaGreatDoor

/-
 Contracts: the reader's symbols (program).
-/
namespace Go.Proofs.YtgogonnnojcioaaGreatDoor
open Go.AX Go.RowKit Go.Core Go.Marshal
set_option maxRecDepth 20000

theorem SIndex_m (a : Option Addr) (l : List (List UInt8)) (cap : Nat) (s : List UInt8) (ha : a = none → l = []) (hl : l.length ≤ 1000000) :
  ∀ H, (∀ w, Facts H w → SlAt a (l.length * 1) (strC l) w) → SpecH Tryz.prog 151 (pvs [.slice a l.length cap, .string (bs s)]) H (RetR (fun v => ∃ n : Int, v = .int .i64 n ∧ (0 ≤ n ↔ s ∈ l)) H) := by
 refine factR hm Tryz.func151 (by kernel_rfl) rfl rfl ?_
 (first | refine wX ?_ | exact wZ)
 refine loopS Nat (fun i => i ≤ l.length ∧ s ∉ l.take i) (fun i => mkS Tryz.f151.ntmps 0 [(0, .c (.v (.slice a l.length cap))), (1, .c (.v (.string (bs s)))), (7, .c (.v (.int .i64 (l.length : Int)))), (8, .c (.v (.int .i64 (i : Int))))]) (fun i => l.length - i) rfl (fun _ => rfl) 0 ⟨Nat.zero_le _, by simp⟩ ?_ ?_
 ·exact wKK
 intro i ⟨hi, hno⟩
 (first | refine wX ?_ | exact wZ)
 refine brd_dec (fun h1 => ?_) (fun h1 => ?_)
 ·obtain ⟨t, ht⟩ : ∃ t, l[i]? = some t := ⟨_, List.getElem?_eq_getElem (by omega)⟩
  have hsa : a.isSome = true := by
   cases a with
   | none => rw [ha rfl] at ht; cases ht
   | some b => rfl
  (first | refine wX ?_ | exact wZ)
  refine Nd.mk ⟨hsa, by omega, by omega⟩ ?_
  (first | refine wX ?_ | exact wZ)
  refine LdN.one (.string (bs t)) rfl (fun w hw => hw.1) (by show (strC l)[Int.toNat _ * 1]? = _; rw [Int.toNat_natCast, Nat.mul_one]; exact strC_get ht) ?_
  (first | refine wX ?_ | exact wZ)
  refine brd_intro (fun h2 => ?_) (fun h2 => ?_)
  ·have h3 : s = t := eq_of_beq (show (s == t) = true from h2)
   (first | refine wX ?_ | exact wZ)
   refine ⟨_, rfl, (i : Int), rfl, ⟨fun _ => ?_, fun _ => by omega⟩⟩
   rw [h3]
   exact List.mem_of_getElem? ht
  ·have h3 : (s == t) = false := h2
   (first | refine wX ?_ | exact wZ)
   refine ⟨i + 1, ⟨by omega, ?_⟩, by omega, ?_, wHH⟩
   ·rw [List.take_add_one, ht]
    simp only [Option.toList_some, List.mem_append, List.mem_singleton, not_or]
    exact ⟨hno, by simpa using h3⟩
   ·exact wKK
 ·have hie : i = l.length := by omega
  subst hie
  rw [List.take_length] at hno
  (first | refine wX ?_ | exact wZ)
  exact ⟨_, rfl, -1, rfl, ⟨fun h => absurd h (by decide), fun h => absurd h hno⟩⟩
theorem Contains_m (a : Option Addr) (l : List (List UInt8)) (cap : Nat) (s : List UInt8) (ha : a = none → l = []) (hl : l.length ≤ 1000000) :
  ∀ H, (∀ w, Facts H w → SlAt a (l.length * 1) (strC l) w) → SpecH Tryz.prog 130 (pvs [.slice a l.length cap, .string (bs s)]) H (Ret (.bool (decide (s ∈ l))) H) := by
 refine factC hm Tryz.func130 (by kernel_rfl) rfl rfl ?_
 (first | refine wX ?_ | exact wZ)
 refine callR (SIndex_m a l cap s ha hl _ (fun w hw => hw.1)) fun v hv => ?_
 obtain ⟨n, rfl, hn⟩ := hv
 (first | refine wX ?_ | exact wZ)
 refine ret_b ?_
 rw [decide_eq_true_eq, decide_eq_true_eq]
 exact hn
end Go.Proofs.YtgogonnnojcioaaGreatDoor

/-
 Contracts: the reader's symbols (program).
-/
namespace Go.Proofs.YtgogonnnojcioaaGreatDoor
open Go.AX Go.RowKit Go.Core Go.Marshal
set_option maxRecDepth 20000

structure RdOk (st : PS) (p : RdP) : Prop where
 g : p.m.map (·.c) = st.g
 cell : ∀ q ∈ p.m, CellOk q
 ga : p.ga = none → p.m = []
 ca : p.ca = none → st.cells = []
 sa : p.sa = none → st.ss = []
 sw : ∀ t ∈ st.ss, t.length ≤ 30000
 gx : p.ga = none ∨ ∃ b : Nat, p.ga = some ⟨b, 0, none⟩
theorem fail_ss (st : PS) (e : Int) : (failM st e).ss = st.ss ∧ (failM st e).g = st.g ∧ (failM st e).cells = st.cells := by unfold failM; split <;> exact ⟨rfl, rfl, rfl⟩
theorem num_keep (most : Nat) (st : PS) : (numM most st).2.ss = st.ss ∧ (numM most st).2.g = st.g ∧ (numM most st).2.cells = st.cells := by
 unfold numM
 split
 ·exact ⟨rfl, rfl, rfl⟩
 split <;> exact ⟨rfl, rfl, rfl⟩
theorem text_keep (most : Nat) (st : PS) : (textM most st).2.ss = st.ss ∧ (textM most st).2.g = st.g ∧ (textM most st).2.cells = st.cells := by
 have h := num_keep maxN st
 unfold textM
 split
 ·exact h
 split
 ·exact h
 split <;> exact h
theorem symbol_rd (rb : Nat) (x : UInt8) (st : PS) (p : RdP) (ok : RdOk st p) (hss : st.ss.length < 100000) : SpecH Tryz.prog 105 [.c (.v (.pointer (some ⟨rb, 0, none⟩))), .c (.v (.int .u8 (x.toNat : Int)))] (rdE rb st p) (RetG (ι := Option Addr × Nat) (fun i => i.1 = none → (symM x st).2.ss = []) (fun _ => .string (bs (symM x st).1)) fun i => rdE rb (symM x st).2 { p with sa := i.1, sc := i.2 }) := by
  refine ownC hm Tryz.func105 (by kernel_rfl) rfl rfl (fun _ _ => rdE_ok _ _ _) (fun _ _ => Nat.le_refl _) ?_
  have htext := text_rd rb st p 40
  have hnum := number_m rb st p maxN (by decide)
  have kt := text_keep 40 st
  have kn := num_keep maxN st
  unfold symM
  generalize textM 40 st = qt at htext kt ⊢
  generalize numM maxN st = qn at hnum kn ⊢
  obtain ⟨t, st1⟩ := qt
  obtain ⟨n, st2⟩ := qn
  simp only at htext hnum kt kn ⊢
  by_cases h58 : x = 58
  · subst h58
    rw [if_pos rfl]
    have hsa : p.sa = none → st1.ss = [] := fun h => by rw [kt.1]; exact ok.sa h
    have hl1 : st1.ss.length < 100000 := by rw [kt.1]; exact hss
    (first | refine wX ?_ | exact wZ)
    refine callG (htext) [0, 1, 2, 3, 4] rfl ⟨rfl, rfl, rfl, rfl, rfl, trivial⟩ rfl fun _ _ => ?_
    (first | refine wX ?_ | exact wZ)
    refine LdN.one (a := some ⟨rb, 0, none⟩) (q := 4) (.int .i64 st1.e) rfl (fun w hw => hw.1) rfl ?_
    (first | refine wX ?_ | exact wZ)
    by_cases he : st1.e = 0
    · rw [show (st1.e == 0) = true by rw [he]; rfl]
      (first | refine wX ?_ | exact wZ)
      refine LdN.one (a := some ⟨rb, 0, none⟩) (q := 3) (.slice p.sa st1.ss.length p.sc) rfl (fun w hw => hw.1) rfl ?_
      (first | refine wX ?_ | exact wZ)
      refine call1 (Contains_m p.sa st1.ss p.sc t hsa (by omega) _ (fun w hw => hw.2.2.2.2.1)) ?_
      (first | refine wX ?_ | exact wZ)
      refine brd_dec (fun hm => ?_) (fun hm => ?_)
      · (first | refine wX ?_ | exact wZ)
        refine callG (fail_m rb st1 p 4) [0, 1, 2, 3, 4] rfl ⟨rfl, rfl, rfl, rfl, rfl, trivial⟩ rfl fun _ _ => ?_
        rw [if_pos ⟨he, hm⟩, show ({ failM st1 4 with ss := st1.ss ++ [t] } : PS) = { failM st1 4 with ss := (failM st1 4).ss ++ [t] } by rw [(fail_ss st1 4).1]]
        have hl2 : (failM st1 4).ss.length < 100000 := by rw [(fail_ss st1 4).1]; exact hl1
        generalize failM st1 4 = st3 at hl2 ⊢
        (first | refine wX ?_ | exact wZ)
        refine LdN.one (a := some ⟨rb, 0, none⟩) (q := 3) (.slice p.sa (st3).ss.length p.sc) rfl (fun w hw => hw.1) rfl ?_
        (first | refine wX ?_ | exact wZ)
        refine Nd.mk ⟨Nat.le_refl 1, rfl, rfl⟩ ?_
        (conv => whnf)
        refine AppN.grow 4 (strC (st3).ss) [.string (bs t)] rfl rfl ⟨Nat.le_refl 1, ⟨by show ((st3).ss.length + 1) * 16 ≤ _; omega, by omega⟩, by decide⟩ fun b' cap' h1 h2 => ?_
        (first | refine wX ?_ | exact wZ)
        refine EffW.appTo (i := 0) (q := 3) (ys := [_]) (rdC { (st3) with ss := (st3).ss ++ [t] } { p with sa := some ⟨b', 0, none⟩, sc := cap' }) 5 rfl rfl rfl rfl rfl rfl rfl (Nat.le_of_ble_eq_true rfl) (by simp [rdC]) rfl ?_
        (first | refine wX ?_ | exact wZ)
        refine ⟨(some ⟨b', 0, none⟩, cap'), (fun h => by cases h), rfl, wkE_refl _, wkE_refl _, wkE_refl _, wkE_refl _, ?_, trivial⟩
        rw [show strC (st3).ss ++ [.string (bs t)] = strC ((st3).ss ++ [t]) by simp [strC], show (st3).ss.length + 1 = ((st3).ss ++ [t]).length by simp]
        exact wkE_refl _
      · rw [if_neg (fun h => hm h.2)]
        (first | refine wX ?_ | exact wZ)
        refine LdN.one (a := some ⟨rb, 0, none⟩) (q := 3) (.slice p.sa (st1).ss.length p.sc) rfl (fun w hw => hw.1) rfl ?_
        (first | refine wX ?_ | exact wZ)
        refine Nd.mk ⟨Nat.le_refl 1, rfl, rfl⟩ ?_
        (conv => whnf)
        refine AppN.grow 4 (strC (st1).ss) [.string (bs t)] rfl rfl ⟨Nat.le_refl 1, ⟨by show ((st1).ss.length + 1) * 16 ≤ _; omega, by omega⟩, by decide⟩ fun b' cap' h1 h2 => ?_
        (first | refine wX ?_ | exact wZ)
        refine EffW.appTo (i := 0) (q := 3) (ys := [_]) (rdC { (st1) with ss := (st1).ss ++ [t] } { p with sa := some ⟨b', 0, none⟩, sc := cap' }) 5 rfl rfl rfl rfl rfl rfl rfl (Nat.le_of_ble_eq_true rfl) (by simp [rdC]) rfl ?_
        (first | refine wX ?_ | exact wZ)
        refine ⟨(some ⟨b', 0, none⟩, cap'), (fun h => by cases h), rfl, wkE_refl _, wkE_refl _, wkE_refl _, wkE_refl _, ?_, trivial⟩
        rw [show strC (st1).ss ++ [.string (bs t)] = strC ((st1).ss ++ [t]) by simp [strC], show (st1).ss.length + 1 = ((st1).ss ++ [t]).length by simp]
        exact wkE_refl _
    · rw [show (st1.e == 0) = false by simpa using he, if_neg (fun h => he h.1)]
      (first | refine wX ?_ | exact wZ)
      refine LdN.one (a := some ⟨rb, 0, none⟩) (q := 3) (.slice p.sa (st1).ss.length p.sc) rfl (fun w hw => hw.1) rfl ?_
      (first | refine wX ?_ | exact wZ)
      refine Nd.mk ⟨Nat.le_refl 1, rfl, rfl⟩ ?_
      (conv => whnf)
      refine AppN.grow 4 (strC (st1).ss) [.string (bs t)] rfl rfl ⟨Nat.le_refl 1, ⟨by show ((st1).ss.length + 1) * 16 ≤ _; omega, by omega⟩, by decide⟩ fun b' cap' h1 h2 => ?_
      (first | refine wX ?_ | exact wZ)
      refine EffW.appTo (i := 0) (q := 3) (ys := [_]) (rdC { (st1) with ss := (st1).ss ++ [t] } { p with sa := some ⟨b', 0, none⟩, sc := cap' }) 5 rfl rfl rfl rfl rfl rfl rfl (Nat.le_of_ble_eq_true rfl) (by simp [rdC]) rfl ?_
      (first | refine wX ?_ | exact wZ)
      refine ⟨(some ⟨b', 0, none⟩, cap'), (fun h => by cases h), rfl, wkE_refl _, wkE_refl _, wkE_refl _, wkE_refl _, ?_, trivial⟩
      rw [show strC (st1).ss ++ [.string (bs t)] = strC ((st1).ss ++ [t]) by simp [strC], show (st1).ss.length + 1 = ((st1).ss ++ [t]).length by simp]
      exact wkE_refl _
  by_cases h59 : x = 59
  · subst h59
    rw [if_neg (by decide), if_pos rfl]
    (first | refine wX ?_ | exact wZ)
    refine callG (hnum) [0, 1, 2, 3, 4] rfl ⟨rfl, rfl, rfl, rfl, rfl, trivial⟩ rfl fun _ _ => ?_
    (first | refine wX ?_ | exact wZ)
    refine LdN.one (a := some ⟨rb, 0, none⟩) (q := 4) (.int .i64 st2.e) rfl (fun w hw => hw.1) rfl ?_
    (first | refine wX ?_ | exact wZ)
    by_cases he : st2.e = 0
    · rw [show (st2.e == 0) = true by rw [he]; rfl]
      (first | refine wX ?_ | exact wZ)
      refine LdN.one (a := some ⟨rb, 0, none⟩) (q := 3) (.slice p.sa st2.ss.length p.sc) rfl (fun w hw => hw.1) rfl ?_
      (first | refine wX ?_ | exact wZ)
      refine brd_dec (fun hlt => ?_) (fun hlt => ?_)
      · have hn : n < st2.ss.length := by omega
        rw [if_pos ⟨he, hn⟩]
        have hsa : p.sa.isSome = true := by
          cases h : p.sa with
          | none =>
            have := ok.sa h
            rw [kn.1, this] at hn
            exact absurd hn (Nat.not_lt_zero _)
          | some b => rfl
        have hget : st2.ss[n]? = some (st2.ss.getD n []) := by rw [List.getD_eq_getElem?_getD, List.getElem?_eq_getElem hn]; rfl
        (first | refine wX ?_ | exact wZ)
        refine LdN.one (a := some ⟨rb, 0, none⟩) (q := 3) (.slice p.sa st2.ss.length p.sc) rfl (fun w hw => hw.1) rfl ?_
        (first | refine wX ?_ | exact wZ)
        refine Nd.mk ⟨hsa, by omega, by omega⟩ ?_
        (first | refine wX ?_ | exact wZ)
        refine LdN.one (.string (bs (st2.ss.getD n []))) rfl (fun w hw => hw.2.2.2.2.1) (by show (strC st2.ss)[Int.toNat _ * 1]? = _; rw [Int.toNat_natCast, Nat.mul_one]; exact strC_get hget) ?_
        (first | refine wX ?_ | exact wZ)
        exact ⟨(p.sa, p.sc), (fun h => by show st2.ss = []; rw [kn.1]; exact ok.sa h), rfl, wkH_refl _⟩
      · rw [if_neg (fun h => hlt (by omega))]
        (first | refine wX ?_ | exact wZ)
        refine callG (fail_m rb st2 p 4) [0, 1, 2, 3, 4] rfl ⟨rfl, rfl, rfl, rfl, rfl, trivial⟩ rfl fun _ _ => ?_
        (first | refine wX ?_ | exact wZ)
        exact ⟨(p.sa, p.sc), (fun h => by rw [(fail_ss _ _).1, kn.1]; exact ok.sa h), rfl, wkH_refl _⟩
    · rw [show (st2.e == 0) = false by simpa using he, if_neg (fun h => he h.1)]
      (first | refine wX ?_ | exact wZ)
      refine callG (fail_m rb st2 p 4) [0, 1, 2, 3, 4] rfl ⟨rfl, rfl, rfl, rfl, rfl, trivial⟩ rfl fun _ _ => ?_
      (first | refine wX ?_ | exact wZ)
      exact ⟨(p.sa, p.sc), (fun h => by rw [(fail_ss _ _).1, kn.1]; exact ok.sa h), rfl, wkH_refl _⟩
  · rw [if_neg h58, if_neg h59]
    have e1 : ((x.toNat : Int) == 58) = false := by
      rw [beq_eq_false_iff_ne]
      intro h5
      exact h58 (UInt8.toNat_inj.1 (by have : x.toNat = 58 := by omega
                                       rw [this]; rfl))
    have e2 : ((x.toNat : Int) == 59) = false := by
      rw [beq_eq_false_iff_ne]
      intro h5
      exact h59 (UInt8.toNat_inj.1 (by have : x.toNat = 59 := by omega
                                       rw [this]; rfl))
    (first | refine wX ?_ | exact wZ)
    rw [e1]
    (first | refine wX ?_ | exact wZ)
    rw [e2]
    (first | refine wX ?_ | exact wZ)
    refine callG (fail_m rb st p 4) [0, 1, 2, 3, 4] rfl ⟨rfl, rfl, rfl, rfl, rfl, trivial⟩ rfl fun _ _ => ?_
    (first | refine wX ?_ | exact wZ)
    exact ⟨(p.sa, p.sc), (fun h => by rw [(fail_ss _ _).1]; exact ok.sa h), rfl, wkH_refl _⟩
end Go.Proofs.YtgogonnnojcioaaGreatDoor

/-
 Plain: what was written is read back, cells with items.
-/
namespace Go.Marshal
open Go.Core

theorem num_ok {most n : Nat} {st : St} {tail : B} (h : n ≤ most) (hm : most ≤ 2 * maxN) (hs : st.s = num n ++ tail) : numS most st = .ok (n, { st with s := tail }) := by
 have : maxN = 1000000000000000 := rfl
 unfold numS
 rw [hs, rd_num h (by omega)]
theorem back_open {g : List Cell} {w w' : Wr} {a : Int} {x : UInt8} {b : B} (hw : w'.out = w.out ++ x :: b) (h64 : x ≠ 64) (hb : x ∈ begins) (hn : x ∈ named)
  (hi : ∀ (tail : B) (st : St) (org : List Int), Rl { w with cells := w.cells ++ [a] } st org → st.s = b ++ tail →
   (∃ c st' org' new on, innerF formS x st = .ok (c, st') ∧ st'.s = tail ∧ Rl w' st' org' ∧ Ex g st st' org org' new on ∧ Good g org' st'.g.length c a ∧ st'.g.length + wgt iT g w'.cells ≤ st.g.length + wgt iT g w.cells) ∨
   (innerF formS x st = .error 4 ∧ 500 < st.g.length + wgt iT g w.cells)) : Back g w w' a := by
 refine ⟨x :: b, hw, fun tail st org hR hs => ?_⟩
 have hs2 : st.s = x :: (b ++ tail) := hs
 rw [form_byte hs2 h64 hb]
 by_cases h : 500 ≤ st.g.length
 ·rw [if_pos h]
  exact .inr ⟨rfl, by omega⟩
 ·rw [if_neg h]
  have hoc : (openS x { st with s := b ++ tail }).cells = st.cells ++ [(st.g.length : Int)] := by unfold openS; simp only; rw [if_pos hn]
  have hog : (openS x { st with s := b ++ tail }).g = st.g ++ [nilC] := rfl
  have hlr := hR.len
  obtain ⟨o, ho⟩ : ∃ o, o = openS x { st with s := b ++ tail } := ⟨_, rfl⟩
  have hRo : Rl { w with cells := w.cells ++ [a] } o (org ++ [a]) := by
   refine ⟨by rw [ho]; exact hR.ss, by rw [ho, hog]; simp [hlr], ?_, fun i hi => ?_⟩
   ·rw [ho, hoc, List.map_append, ← hR.cells]
    congr 1
    ·exact List.map_congr_left fun y hy => lk_app (by rw [hlr]; exact hR.rng y hy)
    ·show [lk _ _] = [a]
     rw [← hlr, lk_new org a []]
   ·rw [ho, hoc] at hi
    rw [ho, hog, List.length_append]
    rcases List.mem_append.1 hi with hi | hi
    ·have := hR.rng i hi; simp only [List.length_cons, List.length_nil]; omega
    ·rw [List.mem_singleton.1 hi]; simp only [List.length_cons, List.length_nil]; omega
  have hol : o.g.length = st.g.length + 1 := by rw [ho, hog]; simp
  rw [← ho]
  rcases hi tail o (org ++ [a]) hRo (by rw [ho]; rfl) with ⟨c, st', org', new, on, h1, h2, h3, h4, h5, h6⟩ | ⟨h1, h2⟩
  ·rw [h1]
   have hg' : (setS st.g.length c st').g = st.g ++ c :: new := by
    unfold setS
    simp only
    rw [h4.g_, ho, hog, List.append_assoc, List.set_append_right _ _ (Nat.le_refl _), Nat.sub_self]
    rfl
   have hgl : (setS st.g.length c st').g.length = st'.g.length := by unfold setS; simp
   refine .inl ⟨(st.g.length : Int), setS st.g.length c st', org', c :: new, a :: on, rfl, h2, ⟨h3.ss, by rw [hgl]; exact h3.len, h3.cells, fun i hi => by rw [hgl]; exact h3.rng i hi⟩, ⟨hg', by rw [h4.o_, List.append_assoc]; rfl, by simp [h4.len], fun j d y hd hy => ?_, fun i hi => h4.sub i (by rw [ho, hoc]; simp [hi])⟩, ?_, ?_, .inl rfl, ?_⟩
   ·rw [hgl]
    cases j with
    | zero =>
     obtain rfl := Option.some.inj hd
     obtain rfl := Option.some.inj hy
     exact ⟨h5, fun _ => h4.sub _ (by rw [ho, hoc]; simp)⟩
    | succ j =>
     obtain ⟨k1, k2⟩ := h4.good j d y hd hy
     refine ⟨k1, fun hs => ?_⟩
     have := k2 hs
     rw [hol] at this
     rw [show st.g.length + (j + 1) = st.g.length + 1 + j by omega]
     exact this
   ·rw [hg', List.length_append]; simp only [List.length_cons]; omega
   ·rw [h4.o_, List.append_assoc, ← hlr]
    exact lk_new org a on
   ·rw [hgl]
    omega
  ·rw [h1]
   exact .inr ⟨rfl, by omega⟩
structure Kn (g : List Cell) (w : Wr) : Prop where
 nodup : w.cells.Nodup
 inI : ∀ x ∈ w.cells, InI g x
 sh : ∀ x ∈ w.cells, shared (at_ g x)
theorem Kn.put {g : List Cell} {w : Wr} (h : Kn g w) (b : B) : Kn g (putW w b) := ⟨h.nodup, h.inI, h.sh⟩
theorem Kn.sym {g : List Cell} {w : Wr} (h : Kn g w) (t : B) : Kn g (symW w t) :=
 ⟨by rw [sym_cells]; exact h.nodup, by rw [sym_cells]; exact h.inI, by rw [sym_cells]; exact h.sh⟩
theorem Kn.fold {α : Type} {g : List Cell} {f : Wr → α → Wr} : ∀ (l : List α) (w : Wr), (∀ w, ∀ x ∈ l, Kn g w → Kn g (f w x)) → Kn g w → Kn g (l.foldl f w)
 | [], _, _, h => h
 | x :: l, w, hf, h => Kn.fold l (f w x) (fun w y hy => hf w y (by simp [hy])) (hf w x (by simp) h)
theorem Kn.write {g : List Cell} {K : Nat} (hg : InG g) (hc : ∀ i, InI g i → CellW K (at_ g i)) : ∀ (n : Nat) (w : Wr) (a : Int), InI g a → Kn g w → Kn g (writeF g n w a)
 | 0, _, _, _, h => h
 | n + 1, w, a, ha, h => by
  have c := hc a ha
  unfold writeF
  simp only
  split
  ·exact h.put _
  split
  ·exact h.put _
  split
  ·exact h.put _
  split
  ·exact h.put _
  split
  ·exact h.sym _
  split
  ·exact h.put _
  rename_i k0 k1 k2 k3 k5 hm
  have hk : Kn g { w with cells := w.cells ++ [a] } :=
   ⟨List.nodup_append.2 ⟨h.nodup, by simp, fun x hx y hy => by rw [List.mem_singleton.1 hy]; rintro rfl; exact hm hx⟩, fun x hx => (List.mem_append.1 hx).elim (h.inI x) fun hx => by rw [List.mem_singleton.1 hx]; exact ha,
    fun x hx => (List.mem_append.1 hx).elim (h.sh x) fun hx => by rw [List.mem_singleton.1 hx]; unfold shared; have := c.kind; omega⟩
  have step : ∀ w, ∀ x ∈ (at_ g a).items, Kn g w → Kn g (writeF g n w x) := fun w x hx hw => Kn.write hg hc n w x (outs_in hg ha hx) hw
  split
  ·exact hk.put _
  split
  ·exact Kn.fold _ _ step (hk.put _)
  split
  ·exact Kn.fold _ _ step (hk.put _)
  ·exact Kn.fold _ _ (fun w p hp hw => step _ _ (List.of_mem_zip (a := p.1) (b := p.2) hp).2 (hw.sym _)) ((((hk.put _).sym _).put _))
theorem back_items {g : List Cell} {n : Nat} (hkw : ∀ w x, InI g x → Kn g w → Kn g (writeF g n w x)) (ih : ∀ w x, InI g x → Kn g w → freeN g w.cells < n → Few (writeF g n w x) → Back g w (writeF g n w x) x) : ∀ (l : List Int) (w : Wr), (∀ x ∈ l, InI g x) → Kn g w → freeN g w.cells < n → Few (l.foldl (writeF g n) w) →
  ∃ b, (l.foldl (writeF g n) w).out = w.out ++ b ∧ ∀ (tail : B) (st : St) (org acc : List Int), Rl w st org → st.s = b ++ tail →
   (∃ js st' org' new on, itemsA formS l.length acc st = .ok (acc ++ js, st') ∧ st'.s = tail ∧ Rl (l.foldl (writeF g n) w) st' org' ∧ Ex g st st' org org' new on ∧ (∀ i ∈ js, 0 ≤ i ∧ i < (st'.g.length : Int)) ∧ js.map (lk org') = l ∧ st'.g.length + wgt iT g (l.foldl (writeF g n) w).cells ≤ st.g.length + wgt iT g w.cells + l.length) ∨
   (itemsA formS l.length acc st = .error 4 ∧ 500 < st.g.length + l.length + wgt iT g w.cells)
 | [], w, _, _, _, _ => ⟨[], by simp, fun tail st org acc hR hs => .inl ⟨[], st, org, [], [], by unfold itemsA; simp, hs, hR, Ex.refl g st org st.s st.ss, (fun _ h => by cases h), rfl, Nat.le_refl _⟩⟩
 | x :: l, w, hl, hkn, hn, hF => by
  rw [List.foldl_cons] at hF ⊢
  have hgo := gone_fold (gone_write g n) l (writeF g n w x)
  obtain ⟨b1, e1, h1⟩ := ih w x (hl x (by simp)) hkn hn (hgo.few hF)
  obtain ⟨b2, e2, h2⟩ := back_items hkw ih l (writeF g n w x) (fun y hy => hl y (by simp [hy])) (hkw w x (hl x (by simp)) hkn) (Nat.lt_of_le_of_lt (free_mono (gone_write g n w x).sub) hn) hF
  refine ⟨b1 ++ b2, by rw [e2, e1, List.append_assoc], fun tail st org acc hR hs => ?_⟩
  rw [List.length_cons]
  unfold itemsA
  rcases h1 (b2 ++ tail) st org hR (by rw [hs, List.append_assoc]) with ⟨i, st1, org1, n1, o1, a1, a2, a3, a4, a5, a6, _, a8⟩ | ⟨a1, a2⟩
  ·rw [a1]
   simp only [bnd]
   rcases h2 tail st1 org1 (acc ++ [i]) a3 a2 with ⟨js, st2, org2, n2, o2, c1, c2, c3, c4, c5, c6, c7⟩ | ⟨c1, c2⟩
   ·rw [c1]
    have hx := a4.trans c4 hR.len
    refine .inl ⟨i :: js, st2, org2, n1 ++ n2, o1 ++ o2, by simp, c2, c3, hx, fun j hj => ?_, ?_, by omega⟩
    ·rcases List.mem_cons.1 hj with rfl | hj
     ·have := c4.g_
      have : st2.g.length = st1.g.length + n2.length := by rw [this, List.length_append]
      omega
     ·exact c5 j hj
    ·rw [List.map_cons, c6, c4.o_, lk_app (by rw [a3.len]; exact a5), a6]
   ·rw [c1]
    exact .inr ⟨rfl, by omega⟩
  ·rw [a1]
   exact .inr ⟨rfl, by omega⟩
def pairW (g : List Cell) (n : Nat) (w : Wr) (p : B × Int) : Wr := writeF g n (symW w p.1) p.2
theorem gone_pair (g : List Cell) (n : Nat) (w : Wr) (p : B × Int) : Gone w (pairW g n w p) := (gone_sym w p.1).trans (gone_write g n _ p.2)
theorem Rl.sym {w : Wr} {st : St} {org : List Int} (h : Rl w st org) (t : B) (s : B) : Rl (symW w t) { st with s := s, ss := (symW w t).ss } org :=
 ⟨rfl, h.len, by rw [sym_cells]; exact h.cells, h.rng⟩
theorem Ex.pre {g : List Cell} {st st' : St} {org org' : List Int} {new : List Cell} {on : List Int} {s : B} {ss : List B} (h : Ex g { st with s := s, ss := ss } st' org org' new on) : Ex g st st' org org' new on :=
 ⟨h.g_, h.o_, h.len, h.good, h.sub⟩
theorem back_attrs {g : List Cell} {n : Nat} (hkw : ∀ w x, InI g x → Kn g w → Kn g (writeF g n w x)) (ih : ∀ w x, InI g x → Kn g w → freeN g w.cells < n → Few (writeF g n w x) → Back g w (writeF g n w x) x) : ∀ (l : List (B × Int)) (w : Wr), (∀ p ∈ l, InI g p.2 ∧ Go.Scan.iiB p.1 = true ∧ p.1.length ≤ 40) → Kn g w → freeN g w.cells < n → Few (l.foldl (pairW g n) w) →
  ∃ b, (l.foldl (pairW g n) w).out = w.out ++ b ∧ ∀ (tail : B) (st : St) (org acc : List Int) (ns : List B), Rl w st org → st.s = b ++ tail → (ns ++ l.map Prod.fst).Nodup →
   (∃ js st' org' new on, attrsA formS l.length ns acc st = .ok ((ns ++ l.map Prod.fst, acc ++ js), st') ∧ st'.s = tail ∧ Rl (l.foldl (pairW g n) w) st' org' ∧ Ex g st st' org org' new on ∧ (∀ i ∈ js, 0 ≤ i ∧ i < (st'.g.length : Int)) ∧ js.map (lk org') = l.map Prod.snd ∧ st'.g.length + wgt iT g (l.foldl (pairW g n) w).cells ≤ st.g.length + wgt iT g w.cells + l.length) ∨
   (attrsA formS l.length ns acc st = .error 4 ∧ 500 < st.g.length + l.length + wgt iT g w.cells)
 | [], w, _, _, _, _ => ⟨[], by simp, fun tail st org acc ns hR hs _ => .inl ⟨[], st, org, [], [], by unfold attrsA; simp, hs, hR, Ex.refl g st org st.s st.ss, (fun _ h => by cases h), rfl, Nat.le_refl _⟩⟩
 | p :: l, w, hl, hkn, hn, hF => by
  obtain ⟨t, x⟩ := p
  rw [List.foldl_cons] at hF ⊢
  have hgo := gone_fold (gone_pair g n) l (pairW g n w (t, x))
  obtain ⟨hx, ht1, ht2⟩ := hl (t, x) (by simp)
  have hF1 := hgo.few hF
  have hF0 := (gone_pair g n w (t, x)).few hF1
  obtain ⟨y, b0, e0, hy, h0⟩ := sym_back ht2 hF0.1
  obtain ⟨b1, e1, h1⟩ := ih (symW w t) x hx (hkn.sym t) (by rw [sym_cells]; exact hn) hF1
  obtain ⟨b2, e2, h2⟩ := back_attrs hkw ih l (pairW g n w (t, x)) (fun y hy => hl y (by simp [hy])) (hkw _ x hx (hkn.sym t)) (Nat.lt_of_le_of_lt (free_mono (gone_pair g n w (t, x)).sub) hn) hF
  refine ⟨y :: (b0 ++ (b1 ++ b2)), by rw [e2]; show (writeF g n (symW w t) x).out ++ _ = _; rw [e1, e0]; simp, fun tail st org acc ns hR hs hnd => ?_⟩
  rw [List.length_cons]
  unfold attrsA
  have hs2 : st.s = y :: (b0 ++ (b1 ++ (b2 ++ tail))) := by rw [hs]; simp
  have hnx : nextS st = .ok (y, { st with s := b0 ++ (b1 ++ (b2 ++ tail)) }) := by unfold nextS; rw [hs2]
  have hsy : symS y { st with s := b0 ++ (b1 ++ (b2 ++ tail)) } = .ok (t, { st with s := b1 ++ (b2 ++ tail), ss := (symW w t).ss }) := by
   unfold symS
   simp only
   rw [hR.ss, h0]
  rw [hnx]
  simp only [bnd]
  rw [hsy]
  simp only
  have hfresh : t ∉ ns := fun hm => by
   have := (List.nodup_append.1 hnd).2.2 t hm t (by simp)
   exact this rfl
  rw [if_pos ⟨ht1, hfresh⟩]
  rcases h1 (b2 ++ tail) { st with s := b1 ++ (b2 ++ tail), ss := (symW w t).ss } org (hR.sym t _) rfl with ⟨i, st1, org1, n1, o1, a1, a2, a3, a4, a5, a6, _, a8⟩ | ⟨a1, a2⟩
  ·rw [a1]
   simp only
   rw [sym_cells] at a8
   simp only at a8
   rcases h2 tail st1 org1 (acc ++ [i]) (ns ++ [t]) a3 a2 (by simpa using hnd) with ⟨js, st2, org2, n2, o2, c1, c2, c3, c4, c5, c6, c7⟩ | ⟨c1, c2⟩
   ·rw [c1]
    have hx := a4.pre.trans c4 hR.len
    have hcw : (pairW g n w (t, x)).cells = (writeF g n (symW w t) x).cells := rfl
    rw [hcw] at c7
    refine .inl ⟨i :: js, st2, org2, n1 ++ n2, o1 ++ o2, by simp, c2, c3, hx, fun j hj => ?_, ?_, by omega⟩
    ·rcases List.mem_cons.1 hj with rfl | hj
     ·have := c4.g_
      have : st2.g.length = st1.g.length + n2.length := by rw [this, List.length_append]
      omega
     ·exact c5 j hj
    ·rw [List.map_cons, List.map_cons, c6, c4.o_, lk_app (by rw [a3.len]; exact a5), a6]
   ·rw [c1]
    have hcw : (pairW g n w (t, x)).cells = (writeF g n (symW w t) x).cells := rfl
    rw [hcw] at c2
    exact .inr ⟨rfl, by omega⟩
  ·rw [a1]
   rw [sym_cells] at a2
   simp only at a2
   exact .inr ⟨rfl, by omega⟩
end Go.Marshal

/-
 Plain: what was written is read back: every kind of cell; the whole bytes.
-/
namespace Go.Marshal
open Go.Core

theorem cell_ext {c : Cell} {k n : Int} {t : B} {ns : List B} {l : List Int} (h1 : c.kind = k) (h2 : c.num = n) (h3 : c.text = t) (h4 : c.names = ns) (h5 : c.items = l) : c = ⟨k, n, t, ns, l⟩ := by
 cases c
 simp only at h1 h2 h3 h4 h5
 subst h1 h2 h3 h4 h5
 rfl
theorem cells_few {g : List Cell} (h500 : g.length ≤ 500) {w : Wr} (hN : w.cells.Nodup) (hI : ∀ x ∈ w.cells, InI g x) : w.cells.length ≤ 500 :=
 Nat.le_trans (way_le (n := g.length) hN hI) h500
theorem zip_fst {α β : Type} : ∀ {l : List α} {m : List β}, l.length = m.length → (l.zip m).map Prod.fst = l
 | [], _, _ => rfl
 | x :: l, [], h => by cases h
 | x :: l, y :: m, h => by rw [List.zip_cons_cons, List.map_cons, zip_fst (by simpa using h)]
theorem zip_snd {α β : Type} : ∀ {l : List α} {m : List β}, l.length = m.length → (l.zip m).map Prod.snd = m
 | [], [], _ => rfl
 | [], y :: m, h => by cases h
 | x :: l, [], h => by cases h
 | x :: l, y :: m, h => by rw [List.zip_cons_cons, List.map_cons, zip_snd (by simpa using h)]
theorem good_of {g : List Cell} {org : List Int} {m : Nat} {a k : Int} {t : B} {ns : List B} {js : List Int} (ha : InI g a) (h1 : (at_ g a).kind = k) (h2 : (at_ g a).num = 0) (h3 : (at_ g a).text = t) (h4 : (at_ g a).names = ns) (h5 : js.map (lk org) = (at_ g a).items) (h6 : ∀ i ∈ js, 0 ≤ i ∧ i < (m : Int)) : Good g org m ⟨k, 0, t, ns, js⟩ a :=
 ⟨cell_ext h1 h2 h3 h4 h5.symm, h6, ha⟩
theorem Rl.put {w : Wr} {st : St} {org : List Int} (h : Rl w st org) (b : B) (s : B) : Rl (putW w b) { st with s := s } org := ⟨h.ss, h.len, h.cells, h.rng⟩
theorem back_write {g : List Cell} {K : Nat} (h500 : g.length ≤ 500) (hg : InG g) (hc : ∀ i, InI g i → CellW K (at_ g i)) : ∀ (n : Nat) (w : Wr) (a : Int), InI g a → Kn g w → freeN g w.cells < n → Few (writeF g n w a) → Back g w (writeF g n w a) a
 | 0, w, a, _, _, h, _ => by omega
 | n + 1, w, a, ha, hkn, hn, hF => by
  have hm : maxN = 1000000000000000 := rfl
  have c := hc a ha
  have hFw := (gone_write g (n + 1) w a).few hF
  have hcl := cells_few h500 hkn.nodup hkn.inI
  unfold writeF at hF ⊢
  simp only at hF ⊢
  split
  ·rename_i k
   exact back_leaf (x := 48) (b := []) (c := ⟨0, 0, [], [], []⟩) ha rfl (by decide) (by decide) (by decide) (cell_ext k (c.num0 (by omega)) (c.text0 (by omega) (by omega) (by omega)) (c.leaf (by omega)).2 (c.leaf (by omega)).1) rfl (by unfold shared; simp) rfl fun tail st h1 h2 => by
    unfold innerF
    rw [if_pos rfl]
    cases st
    simp only at h1 h2
    subst h1 h2
    rfl
  split
  ·rename_i _ k
   exact back_leaf (x := 84) (b := []) (c := ⟨1, 0, [], [], []⟩) ha rfl (by decide) (by decide) (by decide) (cell_ext k (c.num0 (by omega)) (c.text0 (by omega) (by omega) (by omega)) (c.leaf (by omega)).2 (c.leaf (by omega)).1) rfl (by unfold shared; simp) rfl fun tail st h1 h2 => by
    unfold innerF
    rw [if_neg (by decide), if_pos rfl]
    cases st
    simp only at h1 h2
    subst h1 h2
    rfl
  split
  ·rename_i _ _ k
   exact back_leaf (x := 70) (b := []) (c := ⟨2, 0, [], [], []⟩) ha rfl (by decide) (by decide) (by decide) (cell_ext k (c.num0 (by omega)) (c.text0 (by omega) (by omega) (by omega)) (c.leaf (by omega)).2 (c.leaf (by omega)).1) rfl (by unfold shared; simp) rfl fun tail st h1 h2 => by
    unfold innerF
    rw [if_neg (by decide), if_neg (by decide), if_pos rfl]
    cases st
    simp only at h1 h2
    subst h1 h2
    rfl
  split
  ·rename_i _ _ _ k
   have hb := c.num k
   have hs : sgn (at_ g a).num ≤ 2 * maxN := by unfold sgn; split <;> omega
   exact back_leaf (x := 105) (b := num (sgn (at_ g a).num)) (c := ⟨3, (at_ g a).num, [], [], []⟩) ha rfl (by decide) (by decide) (by decide) (cell_ext k rfl (c.text0 (by omega) (by omega) (by omega)) (c.leaf (by omega)).2 (c.leaf (by omega)).1) rfl (by unfold shared; simp) rfl fun tail st h1 h2 => by
    unfold innerF
    rw [if_neg (by decide), if_neg (by decide), if_neg (by decide), if_pos rfl, num_ok hs (Nat.le_refl _) h2]
    simp only [bnd]
    rw [unsgn_sgn]
    cases st
    simp only at h1 h2
    subst h1
    rfl
  split
  ·rename_i _ _ _ _ k
   obtain ⟨x, b, e, hx, hs⟩ := sym_back (w := w) (c.sym k) hFw.1
   exact back_leaf (x := x) (b := b) (c := ⟨5, 0, (at_ g a).text, [], []⟩) ha e (by rcases hx with rfl | rfl <;> decide) (by rcases hx with rfl | rfl <;> decide) (by rcases hx with rfl | rfl <;> decide) (cell_ext k (c.num0 (by omega)) rfl (c.leaf (by omega)).2 (c.leaf (by omega)).1) rfl (by unfold shared; simp) (sym_cells _ _) fun tail st h1 h2 => by
    unfold innerF
    rw [if_neg (by rcases hx with rfl | rfl <;> decide), if_neg (by rcases hx with rfl | rfl <;> decide), if_neg (by rcases hx with rfl | rfl <;> decide), if_neg (by rcases hx with rfl | rfl <;> decide), if_neg (by rcases hx with rfl | rfl <;> decide), if_pos hx]
    unfold symS
    rw [h1, h2, hs]
    rfl
  split
  ·rename_i k0 k1 k2 k3 k5 hm2
   have hi := List.idxOf_lt_length_iff.2 hm2
   refine ⟨64 :: num (w.cells.idxOf a), rfl, fun tail st org hR hs => ?_⟩
   have hs2 : st.s = 64 :: (num (w.cells.idxOf a) ++ tail) := hs
   rw [form_named hs2, num_ok (n := w.cells.idxOf a) (by omega) (by omega) rfl]
   simp only [bnd]
   have hlc : st.cells.length = w.cells.length := by rw [← hR.cells, List.length_map]
   obtain ⟨y, hy⟩ : ∃ y, st.cells[w.cells.idxOf a]? = some y := ⟨_, List.getElem?_eq_getElem (by omega)⟩
   rw [hy]
   have hla : lk org y = a := by
    have h1 : w.cells[w.cells.idxOf a]? = some (lk org y) := by rw [← hR.cells, List.getElem?_map, hR.cells, hy]; rfl
    rw [List.getElem?_eq_getElem hi, List.getElem_idxOf hi] at h1
    exact (Option.some.inj h1).symm
   exact .inl ⟨y, { st with s := tail }, org, [], [], rfl, rfl, ⟨hR.ss, hR.len, hR.cells, hR.rng⟩, Ex.refl g st org tail st.ss, hR.rng y (List.mem_of_getElem? hy), hla, .inr (List.mem_of_getElem? hy), by simp only [put_cells]; omega⟩
  rename_i k0 k1 k2 k3 k5 hm2
  rw [if_neg k0, if_neg k1, if_neg k2, if_neg k3, if_neg k5, if_neg hm2] at hF
  have hwg : wgt iT g (w.cells ++ [a]) + (at_ g a).items.length = wgt iT g w.cells := wgt_new (F := iT) ha hm2
  have hlt := free_lt ha hm2 (t := w.cells ++ [a]) (fun x hx => by simp [hx]) (by simp)
  have hl := c.len
  have ht := c.text
  have hk2 : Kn g { w with cells := w.cells ++ [a] } :=
   ⟨List.nodup_append.2 ⟨hkn.nodup, by simp, fun x hx y hy => by rw [List.mem_singleton.1 hy]; rintro rfl; exact hm2 hx⟩, fun x hx => (List.mem_append.1 hx).elim (hkn.inI x) fun hx => by rw [List.mem_singleton.1 hx]; exact ha,
    fun x hx => (List.mem_append.1 hx).elim (hkn.sh x) fun hx => by rw [List.mem_singleton.1 hx]; unfold shared; have := c.kind; omega⟩
  split
  ·rename_i k4
   refine back_open (x := 34) (b := num (at_ g a).text.length ++ (at_ g a).text) rfl (by decide) (by decide) (by decide) fun tail st org hR hs => ?_
   have hit := (c.leaf (by omega)).1
   refine .inl ⟨⟨4, 0, (at_ g a).text, [], []⟩, { st with s := tail }, org, [], [], ?_, rfl, ⟨hR.ss, hR.len, hR.cells, hR.rng⟩, Ex.refl g st org tail st.ss, ⟨?_, fun y hy => (by cases hy), ha⟩, ?_⟩
   ·unfold innerF
    rw [if_neg (by decide), if_neg (by decide), if_neg (by decide), if_neg (by decide), if_pos rfl]
    unfold textS rdT
    rw [hs, List.append_assoc, rd_num (by omega) (by omega)]
    simp only
    rw [if_neg (by omega), if_neg (by rw [List.length_append]; omega)]
    simp only [bnd]
    rw [List.take_left, List.drop_left]
   ·rw [reNum_nil rfl]
    exact cell_ext k4 (c.num0 (by omega)) rfl (c.leaf (by omega)).2 hit
   ·rw [put_cells]
    show st.g.length + wgt iT g (w.cells ++ [a]) ≤ _
    omega
  rename_i k4
  rw [if_neg k4] at hF
  have ih : ∀ w x, InI g x → Kn g w → freeN g w.cells < n → Few (writeF g n w x) → Back g w (writeF g n w x) x := fun w x hx hk h1 h2 => back_write h500 hg hc n w x hx hk h1 h2
  have hkw : ∀ w x, InI g x → Kn g w → Kn g (writeF g n w x) := fun w x hx hk => Kn.write hg hc n w x hx hk
  have hits : ∀ x ∈ (at_ g a).items, InI g x := fun x hx => outs_in hg ha hx
  split
  ·rename_i k6
   rw [if_pos k6] at hF
   obtain ⟨b, e, h⟩ := back_items hkw ih (at_ g a).items (putW { w with cells := w.cells ++ [a] } (91 :: num (at_ g a).items.length)) hits (hk2.put _) (by rw [put_cells]; show freeN g (w.cells ++ [a]) < n; omega) hF
   rw [put_cells] at h
   simp only at h
   refine back_open (x := 91) (b := num (at_ g a).items.length ++ b) (by rw [e]; unfold putW; simp) (by decide) (by decide) (by decide) fun tail st org hR hs => ?_
   unfold innerF
   rw [if_neg (by decide), if_neg (by decide), if_neg (by decide), if_neg (by decide), if_neg (by decide), if_neg (by decide), if_pos rfl, num_ok (n := (at_ g a).items.length) (tail := b ++ tail) (by omega) (by omega) (by rw [hs, List.append_assoc])]
   simp only [bnd]
   rcases h tail { st with s := b ++ tail } org [] (hR.put _ _) rfl with ⟨js, st', org', new, on, c1, c2, c3, c4, c5, c6, c7⟩ | ⟨c1, c2⟩
   ·rw [c1]
    have hgood := good_of (m := st'.g.length) ha k6 (c.num0 (by omega)) (c.text0 (by omega) (by omega) (by omega)) (c.nam0 (by omega)) c6 c5
    exact .inl ⟨⟨6, 0, [], [], js⟩, st', org', new, on, rfl, c2, c3, c4.pre, hgood, by simp only at c7; omega⟩
   ·rw [c1]
    exact .inr ⟨rfl, by simp only at c2; omega⟩
  rename_i k6
  rw [if_neg k6] at hF
  split
  ·rename_i k7
   rw [if_pos k7] at hF
   have hev := c.even k7
   obtain ⟨b, e, h⟩ := back_items hkw ih (at_ g a).items (putW { w with cells := w.cells ++ [a] } (123 :: num ((at_ g a).items.length / 2))) hits (hk2.put _) (by rw [put_cells]; show freeN g (w.cells ++ [a]) < n; omega) hF
   rw [put_cells] at h
   simp only at h
   refine back_open (x := 123) (b := num ((at_ g a).items.length / 2) ++ b) (by rw [e]; unfold putW; simp) (by decide) (by decide) (by decide) fun tail st org hR hs => ?_
   unfold innerF
   rw [if_neg (by decide), if_neg (by decide), if_neg (by decide), if_neg (by decide), if_neg (by decide), if_neg (by decide), if_neg (by decide), if_pos rfl, num_ok (n := (at_ g a).items.length / 2) (tail := b ++ tail) (by omega) (by omega) (by rw [hs, List.append_assoc])]
   simp only [bnd]
   rw [show 2 * ((at_ g a).items.length / 2) = (at_ g a).items.length by omega]
   rcases h tail { st with s := b ++ tail } org [] (hR.put _ _) rfl with ⟨js, st', org', new, on, c1, c2, c3, c4, c5, c6, c7⟩ | ⟨c1, c2⟩
   ·rw [c1]
    have hgood := good_of (m := st'.g.length) ha k7 (c.num0 (by omega)) (c.text0 (by omega) (by omega) (by omega)) (c.nam0 (by omega)) c6 c5
    exact .inl ⟨⟨7, 0, [], [], js⟩, st', org', new, on, rfl, c2, c3, c4.pre, hgood, by simp only at c7; omega⟩
   ·rw [c1]
    exact .inr ⟨rfl, by simp only at c2; omega⟩
  rename_i k7
  rw [if_neg k7] at hF
  have k8 : (at_ g a).kind = 8 := by have := c.kind; omega
  have hlen := c.lens k8
  have hcls := c.cls k8
  have hzl : ((at_ g a).names.zip (at_ g a).items).length = (at_ g a).items.length := by rw [List.length_zip, hlen]; omega
  have hF2 : Few (symW (putW { w with cells := w.cells ++ [a] } [111]) (at_ g a).text) := (gone_put _ _).few ((gone_fold (gone_pair g n) _ _).few hF)
  obtain ⟨x, b1, e1, hx, h1⟩ := sym_back (w := putW { w with cells := w.cells ++ [a] } [111]) hcls.2 hFw.1
  obtain ⟨b, e, h⟩ := back_attrs hkw ih ((at_ g a).names.zip (at_ g a).items) (putW (symW (putW { w with cells := w.cells ++ [a] } [111]) (at_ g a).text) (num (at_ g a).names.length)) (fun p hp => by
   have hz := List.of_mem_zip (a := p.1) (b := p.2) hp
   exact ⟨hits _ hz.2, c.nam _ hz.1⟩) (((hk2.put _).sym _).put _) (by rw [put_cells, sym_cells, put_cells]; show freeN g (w.cells ++ [a]) < n; omega) hF
  rw [put_cells, sym_cells, put_cells] at h
  simp only at h
  show Back g w (((at_ g a).names.zip (at_ g a).items).foldl (pairW g n) (putW (symW (putW { w with cells := w.cells ++ [a] } [111]) (at_ g a).text) (num (at_ g a).names.length))) a
  refine back_open (x := 111) (b := x :: (b1 ++ (num (at_ g a).names.length ++ b))) (by rw [e]; show (symW _ _).out ++ _ ++ _ = _; rw [e1]; show (w.out ++ [111]) ++ _ ++ _ ++ _ = _; simp) (by decide) (by decide) (by decide) fun tail st org hR hs => ?_
  unfold innerF
  rw [if_neg (by decide), if_neg (by decide), if_neg (by decide), if_neg (by decide), if_neg (by decide), if_neg (by decide), if_neg (by decide), if_neg (by decide)]
  have hs2 : st.s = x :: (b1 ++ (num (at_ g a).names.length ++ (b ++ tail))) := by rw [hs]; simp
  have hnx : nextS st = .ok (x, { st with s := b1 ++ (num (at_ g a).names.length ++ (b ++ tail)) }) := by unfold nextS; rw [hs2]
  have hst : st.ss = (putW { w with cells := w.cells ++ [a] } [111]).ss := hR.ss
  have hsy : symS x { st with s := b1 ++ (num (at_ g a).names.length ++ (b ++ tail)) } = .ok ((at_ g a).text, { st with s := num (at_ g a).names.length ++ (b ++ tail), ss := (symW (putW { w with cells := w.cells ++ [a] } [111]) (at_ g a).text).ss }) := by
   unfold symS
   simp only
   rw [hst, h1]
  rw [hnx]
  simp only [bnd]
  rw [hsy]
  simp only
  rw [if_pos hcls.1, num_ok (n := (at_ g a).names.length) (tail := b ++ tail) (by omega) (by omega) rfl]
  simp only
  have hR2 : Rl { w with cells := w.cells ++ [a] } st org := hR
  have hR3 := ((hR2.put [111] st.s).sym (at_ g a).text (b ++ tail)).put (num (at_ g a).names.length) (b ++ tail)
  have hfst := zip_fst hlen
  have hsnd := zip_snd hlen
  rcases h tail _ org [] [] hR3 rfl (by rw [hfst]; exact c.dup) with ⟨js, st', org', new, on, c1, c2, c3, c4, c5, c6, c7⟩ | ⟨c1, c2⟩
  ·rw [hzl, ← hlen] at c1
   rw [hfst] at c1
   rw [c1]
   rw [hsnd] at c6
   rw [hzl] at c7
   have hgood := good_of (m := st'.g.length) ha k8 (c.num0 (by omega)) rfl rfl c6 c5
   exact .inl ⟨⟨8, 0, (at_ g a).text, (at_ g a).names, js⟩, st', org', new, on, rfl, c2, c3, ⟨c4.g_, c4.o_, c4.len, c4.good, c4.sub⟩, hgood, by simp only at c7; omega⟩
  ·rw [hzl, ← hlen] at c1
   rw [c1]
   rw [hzl] at c2
   exact .inr ⟨rfl, by simp only at c2; omega⟩
end Go.Marshal

/-
 Plain: what the writer has met is what is reached; how many symbols; what a valid graph gives.
-/
namespace Go.Marshal
open Go.Core

theorem fold_le {α : Type} {f : Wr → α → Wr} {Q : Wr → Nat} {c : Nat} : ∀ (l : List α) (w : Wr), (∀ w, ∀ x ∈ l, Q (f w x) ≤ Q w + c) → Q (l.foldl f w) ≤ Q w + c * l.length
 | [], w, _ => by simp
 | x :: l, w, h => by
  rw [List.foldl_cons]
  have h1 := h w x (by simp)
  have h2 := fold_le (Q := Q) l (f w x) fun w y hy => h w y (by simp [hy])
  rw [List.length_cons, Nat.mul_add]; omega
def iS (c : Cell) : Nat := c.items.length + c.names.length + 1
theorem sym_ss (w : Wr) (t : B) : (symW w t).ss.length ≤ w.ss.length + 1 := by
 unfold symW
 split
 ·show w.ss.length ≤ _; omega
 ·show (w.ss ++ [t]).length ≤ _; simp
theorem write_ss {g : List Cell} {K : Nat} (hg : InG g) (hc : ∀ i, InI g i → CellW K (at_ g i)) : ∀ (n : Nat) (w : Wr) (a : Int), InI g a → (writeF g n w a).ss.length + wgt iS g (writeF g n w a).cells ≤ w.ss.length + wgt iS g w.cells + 1
 | 0, w, a, _ => by unfold writeF; omega
 | n + 1, w, a, ha => by
  have c := hc a ha
  unfold writeF
  simp only
  split
  ·show w.ss.length + wgt iS g w.cells ≤ _; omega
  split
  ·show w.ss.length + wgt iS g w.cells ≤ _; omega
  split
  ·show w.ss.length + wgt iS g w.cells ≤ _; omega
  split
  ·show w.ss.length + wgt iS g w.cells ≤ _; omega
  split
  ·rw [sym_cells]
   have := sym_ss w (at_ g a).text
   omega
  split
  ·show w.ss.length + wgt iS g w.cells ≤ _; omega
  rename_i k0 k1 k2 k3 k5 hm2
  have hw : wgt iS g (w.cells ++ [a]) + ((at_ g a).items.length + (at_ g a).names.length + 1) = wgt iS g w.cells := wgt_new (F := iS) ha hm2
  have step : ∀ w, ∀ x ∈ (at_ g a).items, (writeF g n w x).ss.length + wgt iS g (writeF g n w x).cells ≤ w.ss.length + wgt iS g w.cells + 1 := fun w x hx => write_ss hg hc n w x (outs_in hg ha hx)
  split
  ·show w.ss.length + wgt iS g (w.cells ++ [a]) ≤ _; omega
  split
  ·refine Nat.le_trans (fold_le (Q := fun w => w.ss.length + wgt iS g w.cells) (c := 1) _ _ step) ?_
   show w.ss.length + wgt iS g (w.cells ++ [a]) + 1 * _ ≤ _; omega
  split
  ·refine Nat.le_trans (fold_le (Q := fun w => w.ss.length + wgt iS g w.cells) (c := 1) _ _ step) ?_
   show w.ss.length + wgt iS g (w.cells ++ [a]) + 1 * _ ≤ _; omega
  ·have k8 : (at_ g a).kind = 8 := by have := c.kind; omega
   have hl := c.lens k8
   refine Nat.le_trans (fold_le (Q := fun w => w.ss.length + wgt iS g w.cells) (c := 2) _ _ fun w p hp => ?_) ?_
   ·have := step (symW w p.1) p.2 (List.of_mem_zip (a := p.1) (b := p.2) hp).2
    rw [sym_cells] at this
    have := sym_ss w p.1
    show (writeF g n (symW w p.1) p.2).ss.length + _ ≤ _
    omega
   ·have := sym_ss (putW { w with cells := w.cells ++ [a] } [111]) (at_ g a).text
    rw [put_cells, sym_cells, put_cells, List.length_zip, hl, Nat.min_self]
    show (symW _ _).ss.length + wgt iS g (w.cells ++ [a]) + 2 * _ ≤ _
    have : (putW { w with cells := w.cells ++ [a] } [111]).ss.length = w.ss.length := rfl
    omega

/-! ### What is met -/
structure WDone (g : List Cell) (R : Int → Prop) (cs ds : List Int) : Prop where
 sub : ∀ x ∈ cs, x ∈ ds
 new : ∀ x ∈ ds, x ∈ cs ∨ R x ∧ ∀ k ∈ outs g x, shared (at_ g k) → k ∈ ds
theorem WDone.refl (g : List Cell) (R : Int → Prop) (cs : List Int) : WDone g R cs cs := ⟨fun _ h => h, fun _ h => .inl h⟩
theorem WDone.trans {g : List Cell} {R : Int → Prop} {a b c : List Int} (h : WDone g R a b) (k : WDone g R b c) : WDone g R a c :=
 ⟨fun x hx => k.sub x (h.sub x hx), fun x hx => by
  rcases k.new x hx with h1 | h1
  ·rcases h.new x h1 with h2 | h2
   ·exact .inl h2
   ·exact .inr ⟨h2.1, fun y hy hs => k.sub y (h2.2 y hy hs)⟩
  ·exact .inr h1⟩
theorem WDone.wk {g : List Cell} {R S : Int → Prop} {a b : List Int} (h : WDone g R a b) (k : ∀ x, R x → S x) : WDone g S a b := ⟨h.sub, fun x hx => (h.new x hx).imp id fun h => ⟨k x h.1, h.2⟩⟩
theorem WDone.fold {α : Type} {g : List Cell} {R : Int → Prop} {f : Wr → α → Wr} {φ : α → Int} {m : Nat} : ∀ (l : List α) (w : Wr), (∀ w, ∀ x ∈ l, freeN g w.cells < m → WDone g R w.cells (f w x).cells ∧ (shared (at_ g (φ x)) → φ x ∈ (f w x).cells)) → freeN g w.cells < m → WDone g R w.cells (l.foldl f w).cells ∧ ∀ x ∈ l, shared (at_ g (φ x)) → φ x ∈ (l.foldl f w).cells
 | [], w, _, _ => ⟨WDone.refl _ _ _, fun _ h => by cases h⟩
 | x :: l, w, h, hm => by
  rw [List.foldl_cons]
  obtain ⟨d1, h1⟩ := h w x (by simp) hm
  obtain ⟨d2, h2⟩ := WDone.fold l (f w x) (fun w y hy => h w y (by simp [hy])) (Nat.lt_of_le_of_lt (free_mono d1.sub) hm)
  refine ⟨d1.trans d2, fun y hy hs => ?_⟩
  rcases List.mem_cons.1 hy with rfl | hy
  ·exact d2.sub _ (h1 hs)
  ·exact h2 y hy hs
theorem write_done {g : List Cell} {K : Nat} (hg : InG g) (hc : ∀ i, InI g i → CellW K (at_ g i)) : ∀ (n : Nat) (w : Wr) (a : Int), InI g a → freeN g w.cells < n → WDone g (fun x => To g a x ∧ shared (at_ g x)) w.cells (writeF g n w a).cells ∧ (shared (at_ g a) → a ∈ (writeF g n w a).cells)
 | 0, w, a, _, h => by omega
 | n + 1, w, a, ha, hn => by
  have c := hc a ha
  unfold writeF
  simp only
  split
  ·rename_i k; exact ⟨WDone.refl _ _ _, fun h => by unfold shared at h; omega⟩
  split
  ·rename_i k; exact ⟨WDone.refl _ _ _, fun h => by unfold shared at h; omega⟩
  split
  ·rename_i k; exact ⟨WDone.refl _ _ _, fun h => by unfold shared at h; omega⟩
  split
  ·rename_i k; exact ⟨WDone.refl _ _ _, fun h => by unfold shared at h; omega⟩
  split
  ·rename_i k
   rw [sym_cells]
   exact ⟨WDone.refl _ _ _, fun h => by unfold shared at h; omega⟩
  split
  ·rename_i hm; exact ⟨WDone.refl _ _ _, fun _ => hm⟩
  rename_i k0 k1 k2 k3 k5 hm2
  have hsh : shared (at_ g a) := by unfold shared; have := c.kind; omega
  have hlt := free_lt ha hm2 (t := w.cells ++ [a]) (fun x hx => by simp [hx]) (by simp)
  have key : ∀ ds, WDone g (fun x => To g a x ∧ shared (at_ g x)) (w.cells ++ [a]) ds → (∀ k ∈ outs g a, shared (at_ g k) → k ∈ ds) → WDone g (fun x => To g a x ∧ shared (at_ g x)) w.cells ds ∧ (shared (at_ g a) → a ∈ ds) := fun ds d ho =>
   ⟨⟨fun x hx => d.sub x (by simp [hx]), fun x hx => by
    rcases d.new x hx with h | h
    ·rcases List.mem_append.1 h with h | h
     ·exact .inl h
     ·rw [List.mem_singleton.1 h]; exact .inr ⟨⟨.refl a, hsh⟩, ho⟩
    ·exact .inr h⟩, fun _ => d.sub a (by simp)⟩
  have step : ∀ w, ∀ x ∈ (at_ g a).items, freeN g w.cells < n → WDone g (fun x => To g a x ∧ shared (at_ g x)) w.cells (writeF g n w x).cells ∧ (shared (at_ g x) → x ∈ (writeF g n w x).cells) := fun w x hx h => by
   obtain ⟨d, h1⟩ := write_done hg hc n w x (outs_in hg ha hx) h
   exact ⟨d.wk fun y hy => ⟨.step hx hy.1, hy.2⟩, h1⟩
  split
  ·rename_i k4
   rw [put_cells]
   refine key _ (WDone.refl _ _ _) fun k hk => ?_
   unfold outs at hk
   rw [(c.leaf (by omega)).1] at hk
   cases hk
  split
  ·obtain ⟨d, h⟩ := WDone.fold (φ := id) (m := n) (at_ g a).items (putW { w with cells := w.cells ++ [a] } (91 :: num (at_ g a).items.length)) step (by rw [put_cells]; show freeN g (w.cells ++ [a]) < n; omega)
   exact key _ d h
  split
  ·obtain ⟨d, h⟩ := WDone.fold (φ := id) (m := n) (at_ g a).items (putW { w with cells := w.cells ++ [a] } (123 :: num ((at_ g a).items.length / 2))) step (by rw [put_cells]; show freeN g (w.cells ++ [a]) < n; omega)
   exact key _ d h
  ·have k8 : (at_ g a).kind = 8 := by have := c.kind; omega
   obtain ⟨d, h⟩ := WDone.fold (φ := Prod.snd) (f := fun w (p : B × Int) => writeF g n (symW w p.1) p.2) (m := n) ((at_ g a).names.zip (at_ g a).items) (putW (symW (putW { w with cells := w.cells ++ [a] } [111]) (at_ g a).text) (num (at_ g a).names.length)) (fun w p hp hm => by
    have := step (symW w p.1) p.2 (List.of_mem_zip (a := p.1) (b := p.2) hp).2 (by rw [sym_cells]; exact hm)
    rw [sym_cells] at this
    exact this) (by rw [put_cells, sym_cells, put_cells]; show freeN g (w.cells ++ [a]) < n; omega)
   rw [put_cells, sym_cells, put_cells] at d
   refine key _ d fun k hk hs => ?_
   have hz : k ∈ ((at_ g a).names.zip (at_ g a).items).map Prod.snd := by rw [zip_snd (c.lens k8)]; exact hk
   obtain ⟨p, hp, rfl⟩ := List.mem_map.1 hz
   exact h p hp hs
theorem met_iff {g : List Cell} {K : Nat} (hg : InG g) (hc : ∀ i, InI g i → CellW K (at_ g i)) {n : Nat} {o : B} {ss : List B} {a : Int} (ha : InI g a) (hn : g.length < n) (x : Int) : x ∈ (writeF g n ⟨o, [], ss⟩ a).cells ↔ To g a x ∧ shared (at_ g x) := by
 obtain ⟨d, h⟩ := write_done hg hc n ⟨o, [], ss⟩ a ha (Nat.lt_of_le_of_lt (free_le g []) hn)
 refine ⟨fun hx => ((d.new x hx).resolve_left (by simp)).1, fun hx => ?_⟩
 have : ∀ b y, To g b y → InI g b → (shared (at_ g b) → b ∈ (writeF g n ⟨o, [], ss⟩ a).cells) → shared (at_ g y) → y ∈ (writeF g n ⟨o, [], ss⟩ a).cells := by
  intro b y hby
  induction hby with
  | refl => exact fun _ h hs => h hs
  | @step i k j hs _ ih =>
   intro hi hb hy
   refine ih (outs_in hg hi hs) (fun hk => ?_) hy
   have hbs : shared (at_ g i) := by
    have ci := hc i hi
    rcases Int.lt_or_le (at_ g i).kind 6 with h6 | h6
    ·have := (ci.leaf (by omega)).1
     unfold outs at hs
     rw [this] at hs
     cases hs
    ·exact .inr h6
   exact ((d.new i (hb hbs)).resolve_left (by simp)).2 k hs hk
 exact this a x hx.1 ha h hx.2

/-! ### A valid graph -/
theorem cellW_of {g : List Cell} {K : Nat} (hv : ValidP g) (hs : ∀ c ∈ g, c.items.length ≤ 2000 ∧ c.text.length + 30 ≤ K) (i : Int) (hi : InI g i) : CellW K (at_ g i) := by
 have hm := at_mem hi
 have hd := hv.2.1 _ hm
 have hp : plainS (at_ g i) = true := by
  have := cell_eq g.length (at_ g i)
  rw [hd, Bool.and_eq_true] at this
  exact this.1
 obtain ⟨hs1, hs2⟩ := hs _ hm
 have htx := cellD_text hd
 have hmx : maxI = (maxN : Int) := rfl
 generalize at_ g i = c at *
 unfold plainS at hp
 simp only [Bool.and_eq_true] at hp
 obtain ⟨⟨⟨⟨hk, ht⟩, hn⟩, hb⟩, hl⟩ := hp
 simp only [decide_eq_true_eq, Bool.or_eq_true] at hk hn hb
 rw [hmx] at hb
 have hic : ∀ s, Go.Scan.icB s = true → s.length ≤ 40 := fun s h => by
  unfold Go.Scan.icB Go.Scan.iwB at h
  simp only [Bool.and_eq_true, decide_eq_true_eq] at h
  exact h.1.1.2
 have hii : ∀ s, Go.Scan.iiB s = true → s.length ≤ 40 := fun s h => by
  unfold Go.Scan.iiB at h
  simp only [Bool.and_eq_true, decide_eq_true_eq] at h
  exact h.2
 refine ⟨hk, fun _ => hb, fun h => hn.resolve_left h, ⟨htx, hs2⟩, fun h => ?_, fun h => ?_, fun h4 h5 h8 => ?_, fun h => ?_, fun h => ?_, fun h => ?_, fun h => ?_, ?_, ?_, hs1⟩
 ·rw [if_neg (by omega), if_pos h] at ht
  simpa using ht
 ·rw [if_neg (by omega), if_neg (by omega), if_pos h] at ht
  exact ⟨ht, hic _ ht⟩
 ·rw [if_neg h4, if_neg h5, if_neg h8] at ht
  simpa using ht
 ·rw [if_pos h] at hl
  simpa using hl
 ·by_cases h5 : c.kind ≤ 5
  ·rw [if_pos h5] at hl
   simp only [Bool.and_eq_true, decide_eq_true_eq] at hl
   exact hl.2
  ·rw [if_neg h5, if_pos h] at hl
   simp only [Bool.and_eq_true, decide_eq_true_eq] at hl
   exact hl.1
 ·rw [if_neg (by omega), if_pos (by omega)] at hl
  simp only [Bool.and_eq_true, Bool.or_eq_true, decide_eq_true_eq] at hl
  exact hl.2.resolve_left (by omega)
 ·rw [if_neg (by omega), if_neg (by omega)] at hl
  simp only [Bool.and_eq_true, decide_eq_true_eq] at hl
  exact hl.1.1
 ·by_cases h8 : c.kind = 8
  ·rw [if_neg (by omega), if_neg (by omega)] at hl
   simp only [Bool.and_eq_true, decide_eq_true_eq] at hl
   exact hl.1.2
  ·by_cases h5 : c.kind ≤ 5
   ·rw [if_pos h5] at hl
    simp only [Bool.and_eq_true, decide_eq_true_eq] at hl
    rw [hl.2]; exact List.nodup_nil
   ·rw [if_neg h5, if_pos h8] at hl
    simp only [Bool.and_eq_true, decide_eq_true_eq] at hl
    rw [hl.1]; exact List.nodup_nil
 ·by_cases h8 : c.kind = 8
  ·rw [if_neg (by omega), if_neg (by omega)] at hl
   simp only [Bool.and_eq_true] at hl
   exact fun t ht => ⟨List.all_eq_true.1 hl.2 t ht, hii t (List.all_eq_true.1 hl.2 t ht)⟩
  ·by_cases h5 : c.kind ≤ 5
   ·rw [if_pos h5] at hl
    simp only [Bool.and_eq_true, decide_eq_true_eq] at hl
    rw [hl.2]; exact fun t ht => by cases ht
   ·rw [if_neg h5, if_pos h8] at hl
    simp only [Bool.and_eq_true, decide_eq_true_eq] at hl
    rw [hl.1]; exact fun t ht => by cases ht
end Go.Marshal

/-
 Plain: a graph that was written is read back as its image.
-/
namespace Go.Marshal
open Go.Core

structure Img (g h : List Cell) (k : Int) (org : List Int) : Prop where
 len : org.length = h.length
 cell : ∀ i, InI h i → at_ g (lk org i) = reNum (lk org) (at_ h i)
 inI : ∀ i, InI h i → InI g (lk org i)
 inG : InG h
 root : InI h 0 ∧ lk org 0 = k
 inj : ∀ i j, InI h i → InI h j → shared (at_ h j) → lk org i = lk org j → i = j
theorem at_get {h : List Cell} {j : Nat} {c : Cell} (hj : h[j]? = some c) : at_ h (j : Int) = c := by
 unfold at_
 rw [Int.toNat_natCast, List.getD_eq_getElem?_getD, hj]
 rfl
theorem inI_nat {h : List Cell} {i : Int} (hi : InI h i) : ∃ (j : Nat) (c : Cell), i = (j : Int) ∧ h[j]? = some c :=
 ⟨i.toNat, _, by have := hi.1; omega, List.getElem?_eq_getElem (by have := hi.1; have := hi.2; omega)⟩
theorem nodup_inj {α β : Type} {f : α → β} : ∀ {l : List α}, (l.map f).Nodup → ∀ x ∈ l, ∀ y ∈ l, f x = f y → x = y
 | [], _, _, h => by cases h
 | a :: l, hn, x, hx => by
  rw [List.map_cons] at hn
  have h1 := List.nodup_cons.1 hn
  intro y hy e
  rcases List.mem_cons.1 hx with rfl | hx2
  ·rcases List.mem_cons.1 hy with rfl | hy2
   ·rfl
   ·exact absurd (List.mem_map.2 ⟨y, hy2, e.symm⟩) h1.1
  ·rcases List.mem_cons.1 hy with rfl | hy2
   ·exact absurd (List.mem_map.2 ⟨x, hx2, e⟩) h1.1
   ·exact nodup_inj h1.2 x hx2 y hy2 e
theorem img_of {g : List Cell} {w : Wr} {st : St} {org on : List Int} {new : List Cell} {k : Int} {ss : List B} {s : B} (hR : Rl w st org) (hE : Ex g ⟨s, [], [], ss⟩ st [] org new on) (hkn : Kn g w) (hr : 0 < st.g.length) (hk : lk org 0 = k) :
  Img g st.g k org ∧ (∀ i, i ∈ st.cells ↔ InI st.g i ∧ shared (at_ st.g i)) ∧ st.cells.Nodup := by
 have hg : st.g = new := hE.g_
 have ho : org = on := hE.o_
 have key : ∀ i, InI st.g i → ∃ x, lk org i = x ∧ Good g org st.g.length (at_ st.g i) x ∧ (shared (at_ st.g i) → i ∈ st.cells) := fun i hi => by
  obtain ⟨j, c, rfl, hj⟩ := inI_nat hi
  have hjl := (List.getElem?_eq_some_iff.1 hj).1
  obtain ⟨x, hx⟩ : ∃ x, org[j]? = some x := ⟨_, List.getElem?_eq_getElem (by rw [hR.len]; exact hjl)⟩
  obtain ⟨h1, h2⟩ := hE.good j c x (by rw [← hg]; exact hj) (by rw [← ho]; exact hx)
  rw [at_get hj]
  have e : lk org (j : Int) = x := by
   unfold lk
   rw [Int.toNat_natCast, List.getD_eq_getElem?_getD, hx]
   rfl
  refine ⟨x, e, h1, fun hs => ?_⟩
  have := h2 hs
  rw [List.length_nil, Nat.zero_add] at this
  exact this
 have hnd : st.cells.Nodup := by
  have := hkn.nodup
  rw [← hR.cells] at this
  exact List.Pairwise.imp_of_mem (fun {a b} _ _ hab e => hab (by rw [e])) (List.pairwise_map.1 this)
 have hcs : ∀ i, i ∈ st.cells ↔ InI st.g i ∧ shared (at_ st.g i) := fun i => by
  refine ⟨fun hi => ?_, fun hi => ?_⟩
  ·have hin : InI st.g i := hR.rng i hi
   obtain ⟨x, e, h1, _⟩ := key i hin
   have hxw : x ∈ w.cells := by rw [← hR.cells, ← e]; exact List.mem_map.2 ⟨i, hi, rfl⟩
   have := hkn.sh x hxw
   rw [h1.cell] at this
   exact ⟨hin, this⟩
  ·obtain ⟨x, e, h1, h2⟩ := key i hi.1
   exact h2 hi.2
 refine ⟨⟨hR.len, fun i hi => ?_, fun i hi => ?_, fun c hc i hi => ?_, ⟨⟨Int.le_refl _, by omega⟩, hk⟩, fun i j hi hj hs he => ?_⟩, hcs, hnd⟩
 ·obtain ⟨x, e, h1, _⟩ := key i hi
  rw [e]; exact h1.cell
 ·obtain ⟨x, e, h1, _⟩ := key i hi
  rw [e]; exact h1.inI
 ·obtain ⟨j, hj⟩ := List.getElem?_of_mem hc
  have hjl := (List.getElem?_eq_some_iff.1 hj).1
  obtain ⟨x, e, h1, _⟩ := key (j : Int) ⟨by omega, by omega⟩
  rw [at_get hj] at h1
  exact h1.rng i hi
 ·obtain ⟨x, e, h1, _⟩ := key i hi
  obtain ⟨y, e2, h3, h4⟩ := key j hj
  have hjm := h4 hs
  have hxy : x = y := by rw [← e, ← e2, he]
  have hsi : shared (at_ st.g i) := by
   have k1 : (at_ g x).kind = (at_ st.g i).kind := by rw [h1.cell]; rfl
   have k2 : (at_ g y).kind = (at_ st.g j).kind := by rw [h3.cell]; rfl
   unfold shared at hs ⊢
   rw [← k1, hxy, k2]
   exact hs
  have hn := hkn.nodup
  rw [← hR.cells] at hn
  exact nodup_inj hn i ((hcs i).2 ⟨hi, hsi⟩) j hjm he
theorem valid_img {g h : List Cell} {k : Int} {org : List Int} (hv : ValidP g) (m : Img g h k org) (hl : h.length ≤ 500) : ValidP h := by
 have hin := valid_in hv
 have hcell : ∀ i, InI h i → cellD h.length (at_ h i) = true := fun i hi => by
  have h1 := hv.2.1 _ (at_mem (m.inI i hi))
  rw [m.cell i hi] at h1
  have hr : rangeB h.length (at_ h i) = true := by
   unfold rangeB
   rw [List.all_eq_true]
   intro y hy
   have := m.inG _ (at_mem hi) y hy
   simp [this.1, this.2]
  unfold cellD at h1 ⊢
  rw [hr, Bool.true_and]
  rw [Bool.and_assoc, Bool.and_eq_true] at h1
  have h2 := h1.2
  unfold reNum at h2
  simp only [List.map_eq_nil_iff, List.length_map] at h2
  exact h2
 have hkey : ∀ x y, InI h x → InI h y → keyB h x y = true → keyB g (lk org x) (lk org y) = true := fun x y hx hy hk => by
  unfold keyB at hk ⊢
  rw [m.cell x hx, m.cell y hy]
  simp only [Bool.or_eq_true, decide_eq_true_eq] at hk ⊢
  rcases hk with hk | hk
  ·exact .inl (by rw [hk])
  ·exact .inr hk
 refine ⟨hl, fun c hc => ?_, fun c hc h7 ht => ?_⟩
 ·obtain ⟨i, hi, rfl⟩ := mem_at hc
  exact hcell i hi
 ·obtain ⟨i, hi, rfl⟩ := mem_at hc
  obtain ⟨a, b, h1, h2, h3, h4, h5⟩ := ht
  refine hv.2.2 _ (at_mem (m.inI i hi)) (by rw [m.cell i hi]; exact h7) ⟨a, b, h1, ?_, h3, h4, ?_⟩
  ·rw [m.cell i hi]
   show a < ((at_ h i).items.map _).length
   rw [List.length_map]; exact h2
  ·rw [m.cell i hi]
   show keyB g (((at_ h i).items.map (lk org)).getD a 0) (((at_ h i).items.map (lk org)).getD b 0) = true
   obtain ⟨x, hx⟩ : ∃ x, (at_ h i).items[a]? = some x := ⟨_, List.getElem?_eq_getElem h2⟩
   obtain ⟨y, hy⟩ : ∃ y, (at_ h i).items[b]? = some y := ⟨_, List.getElem?_eq_getElem (by omega)⟩
   rw [List.getD_eq_getElem?_getD, List.getD_eq_getElem?_getD, hx, hy] at h5
   rw [List.getD_eq_getElem?_getD, List.getD_eq_getElem?_getD, List.getElem?_map, List.getElem?_map, hx, hy]
   exact hkey x y (outs_in m.inG hi (List.mem_of_getElem? hx)) (outs_in m.inG hi (List.mem_of_getElem? hy)) h5
structure Dmp (g : List Cell) (K : Nat) (k : Int) : Prop where
 valid : ValidP g
 small : ∀ c ∈ g, c.items.length ≤ 2000 ∧ c.names.length ≤ 2000 ∧ c.text.length + 30 ≤ K
 at_ : InI g k
theorem Dmp.cellW {g : List Cell} {K : Nat} {k : Int} (h : Dmp g K k) : ∀ i, InI g i → CellW K (Core.at_ g i) := fun i hi => cellW_of h.valid (fun c hc => ⟨(h.small c hc).1, (h.small c hc).2.2⟩) i hi
def doneW (g : List Cell) (k : Int) : Wr := writeF g (g.length + 1) ⟨headB, [], []⟩ k
theorem Dmp.kn {g : List Cell} {K : Nat} {k : Int} (h : Dmp g K k) : Kn g (doneW g k) :=
 Kn.write (valid_in h.valid) h.cellW _ _ _ h.at_ ⟨List.nodup_nil, (fun _ h => by cases h), fun _ h => by cases h⟩
theorem Dmp.wle {g : List Cell} {K : Nat} {k : Int} (h : Dmp g K k) : wgt iS g [] ≤ g.length * 4001 := wgt_le (fun i hi => by
 have := h.small _ (at_mem hi)
 unfold iS
 omega) []
theorem Dmp.few {g : List Cell} {K : Nat} {k : Int} (h : Dmp g K k) : Few (doneW g k) := by
 have h500 := h.valid.1
 have h1 := write_ss (valid_in h.valid) h.cellW (g.length + 1) ⟨headB, [], []⟩ k h.at_
 have h2 := h.wle
 have h3 := cells_few h500 h.kn.nodup h.kn.inI
 have hm : maxN = 1000000000000000 := rfl
 refine ⟨?_, by omega⟩
 unfold doneW
 have h4 : (⟨headB, [], []⟩ : Wr).ss.length = 0 := rfl
 have h5 : (⟨headB, [], []⟩ : Wr).cells = [] := rfl
 rw [h4, h5] at h1
 omega
open Classical in
theorem load_dump {g : List Cell} {K : Nat} {k : Int} (h : Dmp g K k) : (20000 < (dumpS g k).length ∧ loadS (dumpS g k) = .error 2) ∨ (500 < 1 + wgt iT g [] ∧ loadS (dumpS g k) = .error 4) ∨
  ∃ (q : List Cell) (org cs : List Int), loadS (dumpS g k) = (if ValidP q then .ok (q, (doneW g k).ss) else .error 1) ∧ Img g q k org ∧ q.length ≤ 1 + wgt iT g [] ∧ (∀ i, i ∈ cs ↔ InI q i ∧ shared (Core.at_ q i)) ∧ cs.Nodup ∧ cs.map (lk org) = (doneW g k).cells := by
 have hin := valid_in h.valid
 obtain ⟨b, e, hb⟩ := back_write h.valid.1 hin h.cellW (g.length + 1) ⟨headB, [], []⟩ k h.at_ ⟨List.nodup_nil, (fun _ h => by cases h), fun _ h => by cases h⟩ (Nat.lt_succ_of_le (free_le g [])) h.few
 have hd : dumpS g k = headB ++ b := e
 by_cases hl : 20000 < (dumpS g k).length
 ·refine .inl ⟨hl, ?_⟩
  unfold loadS
  rw [if_pos hl]
 ·have hload : loadS (dumpS g k) = match formS ⟨b, [], [], []⟩ with
   | .error e => .error e
   | .ok (_, st) => if st.s ≠ [] then .error 4 else if ValidP st.g then .ok (st.g, st.ss) else .error 1 := by
   unfold loadS
   rw [if_neg hl, hd]
   rfl
  rw [hload]
  rcases hb [] ⟨b, [], [], []⟩ [] ⟨rfl, rfl, rfl, fun _ h => by cases h⟩ (by simp) with ⟨i, st', org', new, on, h1, h2, h3, h4, h5, h6, h7, h8⟩ | ⟨h1, h2⟩
  ·rw [h1]
   simp only
   rw [if_neg (by rw [h2]; simp)]
   have h0 : i = 0 := h7.elim id fun h => by cases h
   subst h0
   obtain ⟨m, hcs, hnd⟩ := img_of h3 h4 h.kn (by have := h5.2; omega) h6
   refine .inr (.inr ⟨st'.g, org', st'.cells, ?_, m, ?_, hcs, hnd, h3.cells⟩)
   ·rw [h3.ss]; rfl
   ·have : (⟨b, [], [], []⟩ : St).g.length = 0 := rfl
    have h9 : (⟨headB, [], []⟩ : Wr).cells = [] := rfl
    rw [this, h9] at h8
    omega
  ·rw [h1]
   exact .inr (.inl ⟨by
    have : (⟨b, [], [], []⟩ : St).g.length = 0 := rfl
    have h9 : (⟨headB, [], []⟩ : Wr).cells = [] := rfl
    rw [this, h9] at h2
    omega, rfl⟩)
end Go.Marshal

/-
 Plain: an image writes the same text and the same bytes, is equal, has circles where the graph has.
-/
namespace Go.Marshal
open Go.Core

/-! ### The bytes of an image -/
structure Tw (g h : List Cell) (org : List Int) (v w : Wr) : Prop where
 out : v.out = w.out
 ss : v.ss = w.ss
 cells : v.cells = w.cells.map (lk org)
 rng : ∀ x ∈ w.cells, InI h x ∧ shared (at_ h x)
theorem Tw.put {g h : List Cell} {org : List Int} {v w : Wr} (t : Tw g h org v w) (b : B) : Tw g h org (putW v b) (putW w b) :=
 ⟨by show v.out ++ b = w.out ++ b; rw [t.out], t.ss, t.cells, t.rng⟩
def writeC (f : Wr → Int → Wr) (c : Cell) (w : Wr) (a : Int) : Wr :=
  if c.kind = 0 then putW w [48]
  else if c.kind = 1 then putW w [84]
  else if c.kind = 2 then putW w [70]
  else if c.kind = 3 then putW w (105 :: num (sgn c.num))
  else if c.kind = 5 then symW w c.text
  else if a ∈ w.cells then putW w (64 :: num (w.cells.idxOf a))
  else if c.kind = 4 then putW { w with cells := w.cells ++ [a] } (34 :: (num c.text.length ++ c.text))
   else if c.kind = 6 then c.items.foldl f (putW { w with cells := w.cells ++ [a] } (91 :: num c.items.length))
   else if c.kind = 7 then c.items.foldl f (putW { w with cells := w.cells ++ [a] } (123 :: num (c.items.length / 2)))
   else (c.names.zip c.items).foldl (fun w p => f (symW w p.1) p.2) (putW (symW (putW { w with cells := w.cells ++ [a] } [111]) c.text) (num c.names.length))
theorem writeF_eq (g : List Cell) (n : Nat) (w : Wr) (a : Int) : writeF g (n + 1) w a = writeC (writeF g n) (at_ g a) w a := rfl
end Go.Marshal

/-
 Plain: shared cells are as many as were reached; bytes that are cut or too long; a full graph.
-/
namespace Go.Marshal
open Go.Core

theorem nodup_sub {α : Type} [DecidableEq α] : ∀ {a b : List α}, a.Nodup → (∀ x ∈ a, x ∈ b) → a.length ≤ b.length
 | [], _, _, _ => Nat.zero_le _
 | x :: a, b, h, hs => by
  have h2 := List.nodup_cons.1 h
  have hx := hs x (by simp)
  have := nodup_sub (a := a) (b := b.erase x) h2.2 fun y hy => (List.mem_erase_of_ne (fun e : y = x => h2.1 (e ▸ hy))).2 (hs y (by simp [hy]))
  rw [List.length_erase_of_mem hx] at this
  have := List.length_pos_of_mem hx
  simp only [List.length_cons]; omega
theorem nodup_eq {α : Type} [DecidableEq α] {a b : List α} (ha : a.Nodup) (hb : b.Nodup) (h : ∀ x, x ∈ a ↔ x ∈ b) : a.length = b.length :=
 Nat.le_antisymm (nodup_sub ha fun x hx => (h x).1 hx) (nodup_sub hb fun x hx => (h x).2 hx)
def shB (c : Cell) : Bool := decide (c.kind = 4) || decide (6 ≤ c.kind)
theorem shB_iff (c : Cell) : shB c = true ↔ shared c := by unfold shB shared; simp
theorem filter_idx (q : List Cell) : (q.filter shB).length = ((List.range q.length).filter fun (j : Nat) => shB (at_ q (j : Int))).length := by
 have e : q = (List.range q.length).map fun (j : Nat) => at_ q (j : Int) := by
  refine List.ext_getElem? fun j => ?_
  rw [List.getElem?_map]
  rcases Nat.lt_or_ge j q.length with h | h
  ·rw [List.getElem?_range h, List.getElem?_eq_getElem h, Option.map_some, at_get (List.getElem?_eq_getElem h)]
  ·rw [List.getElem?_eq_none h, List.getElem?_eq_none (by simpa using h)]; rfl
 conv => lhs; rw [e]
 rw [List.filter_map, List.length_map]
 rfl
theorem shares_eq {g : List Cell} {K : Nat} {k : Int} (h : Dmp g K k) {q : List Cell} {org cs : List Int} (hcs : ∀ i, i ∈ cs ↔ InI q i ∧ shared (at_ q i)) (hnd : cs.Nodup) (hm : cs.map (lk org) = (doneW g k).cells) {n : Nat} (hn : g.length < n) :
  ((reachF g n [] k).filter fun x => shB (at_ g x)).length = (q.filter shB).length := by
 have hin := valid_in h.valid
 rw [filter_idx]
 have h1 : ((reachF g n [] k).filter fun x => shB (at_ g x)).length = (doneW g k).cells.length := by
  refine nodup_eq ((reach_nodup n [] k List.nodup_nil).sublist List.filter_sublist) h.kn.nodup fun x => ?_
  rw [List.mem_filter, reach_iff hin hn h.at_, shB_iff]
  exact (met_iff hin h.cellW h.at_ (Nat.lt_succ_self _) x).symm
 have h2 : ((List.range q.length).filter fun (j : Nat) => shB (at_ q (j : Int))).length = cs.length := by
  have h3 : (((List.range q.length).filter fun (j : Nat) => shB (at_ q (j : Int))).map fun (j : Nat) => (j : Int)).length = cs.length := by
   refine nodup_eq (List.pairwise_map.2 ((List.nodup_range.sublist List.filter_sublist).imp fun {a b} hab e => hab (by omega))) hnd fun x => ?_
   rw [hcs]
   constructor
   ·intro hx
    obtain ⟨j, hj, rfl⟩ := List.mem_map.1 hx
    obtain ⟨hj1, hj2⟩ := List.mem_filter.1 hj
    have := List.mem_range.1 hj1
    exact ⟨⟨by omega, by omega⟩, (shB_iff _).1 hj2⟩
   ·rintro ⟨hx, hs⟩
    have e : ((x.toNat : Nat) : Int) = x := by have := hx.1; omega
    refine List.mem_map.2 ⟨x.toNat, List.mem_filter.2 ⟨List.mem_range.2 (by have := hx.1; have := hx.2; omega), ?_⟩, e⟩
    simp only [e]
    exact (shB_iff _).2 hs
  rw [List.length_map] at h3
  exact h3
 rw [h1, h2, ← hm, List.length_map]

/-! ### Cut bytes -/
theorem head_ok : ∀ (hs s r : B), headF hs s = .ok r → s = hs ++ r
 | [], s, r, h => by cases h; rfl
 | x :: hs, [], r, h => by cases h
 | x :: hs, y :: s, r, h => by
  unfold headF at h
  split at h
  ·rename_i e
   rw [e, head_ok hs s r h]
   rfl
  ·cases h
/-! ### A full graph -/
end Go.Marshal

/-
 Plain: the program's reader gives what is said: the whole bytes; how much it holds.
-/
namespace Go.Marshal
open Go.Core

theorem toS_open (x : UInt8) (st : PS) : toS (openM x st) = openS x (toS st) := rfl
theorem Ref.cell : ∀ n : Nat, Ref (formF n) (cellM n)
 | 0 => ⟨(fun st a st' h0 h => by cases h), (fun st e h0 h => by cases h; exact ⟨fail_e h0 99, by decide⟩), fun st h => fail_keep st 99 h⟩
 | n + 1 => by
  have ih := Ref.cell n
  refine Ref.bnd Ref.next (N := fun x st => if st.e ≠ 0 then (0, st) else if x = 64 then refM st else if 500 ≤ st.g.length ∨ x ∉ begins then (0, failM st 4) else ((st.g.length : Int), { (innerM (cellM n) x (openM x st)).2 with g := (innerM (cellM n) x (openM x st)).2.g.set st.g.length (innerM (cellM n) x (openM x st)).1 }))
   (fun x => ⟨fun st a st' h0 h => ?_, fun st e h0 h => ?_, fun st h => ?_⟩) (fun x st h => by rw [if_pos h])
  ·rw [if_neg (by simp [h0])]
   by_cases h64 : x = 64
   ·rw [if_pos h64] at h ⊢
    cases hn : numS maxN (toS st) with
    | error e => rw [hn] at h; cases h
    | ok p =>
     obtain ⟨k, st1⟩ := p
     rw [hn] at h
     have h1 := (Ref.num maxN).ok st k st1 h0 hn
     have h2 : (match st1.cells[k]? with
      | some c => .ok (c, st1)
      | none => .error 4 : Except Int (Int × St)) = .ok (a, st') := h
     unfold refM
     rw [h1]
     simp only
     rw [if_neg (by simp [ofS])]
     cases hc : st1.cells[k]? with
     | none => rw [hc] at h2; cases h2
     | some c =>
      rw [hc] at h2
      cases h2
      have := (List.getElem?_eq_some_iff.1 hc).1
      have hcl : ¬ (ofS st').cells.length ≤ k := by show ¬ st'.cells.length ≤ k; omega
      rw [if_neg hcl]
      show ((st'.cells.getD k 0 : Int), ofS st') = _
      rw [List.getD_eq_getElem?_getD, hc]
      rfl
   ·rw [if_neg h64] at h ⊢
    have e1 : (toS st).g.length = st.g.length := rfl
    rw [e1] at h
    by_cases hb : 500 ≤ st.g.length ∨ x ∉ begins
    ·rw [if_pos hb] at h; cases h
    ·rw [if_neg hb] at h ⊢
     have hx : x ∈ begins := Classical.byContradiction fun hx => hb (.inr hx)
     rw [← toS_open] at h
     have hi := Ref.inner ih hx
     cases hn : innerF (formF n) x (toS (openM x st)) with
     | error e => rw [hn] at h; cases h
     | ok p =>
      obtain ⟨c, st1⟩ := p
      rw [hn] at h
      have h1 := hi.ok (openM x st) c st1 h0 hn
      cases h
      rw [h1]
      rfl
  ·rw [if_neg (by simp [h0])]
   by_cases h64 : x = 64
   ·rw [if_pos h64] at h ⊢
    unfold refM
    cases hn : numS maxN (toS st) with
    | error e1 =>
     rw [hn] at h
     have : Except.error e1 = (Except.error e : Except Int (Int × St)) := h
     cases this
     obtain ⟨h1, h2⟩ := (Ref.num maxN).err st _ h0 hn
     simp only
     rw [if_pos (by rw [h1]; exact h2)]
     exact ⟨h1, h2⟩
    | ok p =>
     obtain ⟨k, st1⟩ := p
     rw [hn] at h
     have h1 := (Ref.num maxN).ok st k st1 h0 hn
     have h2 : (match st1.cells[k]? with
      | some c => .ok (c, st1)
      | none => .error 4 : Except Int (Int × St)) = .error e := h
     rw [h1]
     simp only
     rw [if_neg (by simp [ofS])]
     cases hc : st1.cells[k]? with
     | some c => rw [hc] at h2; cases h2
     | none =>
      rw [hc] at h2
      cases h2
      have := List.getElem?_eq_none_iff.1 hc
      have hcl : (ofS st1).cells.length ≤ k := by show st1.cells.length ≤ k; omega
      rw [if_pos hcl]
      exact ⟨fail_e rfl 4, by decide⟩
   ·rw [if_neg h64] at h ⊢
    have e1 : (toS st).g.length = st.g.length := rfl
    rw [e1] at h
    by_cases hb : 500 ≤ st.g.length ∨ x ∉ begins
    ·rw [if_pos hb] at h ⊢
     cases h
     exact ⟨fail_e h0 4, by decide⟩
    ·rw [if_neg hb] at h ⊢
     have hx : x ∈ begins := Classical.byContradiction fun hx => hb (.inr hx)
     rw [← toS_open] at h
     have hi := Ref.inner ih hx
     cases hn : innerF (formF n) x (toS (openM x st)) with
     | error e1 =>
      rw [hn] at h
      have : Except.error e1 = (Except.error e : Except Int (Int × St)) := h
      cases this
      exact hi.err (openM x st) _ h0 hn
     | ok p => rw [hn] at h; cases h
  ·rw [if_pos h]
theorem cell_dead (n : Nat) {st : PS} (h : st.e ≠ 0) : cellM (n + 1) st = (0, st) := by
 unfold cellM
 simp only
 rw [next_dead h, if_pos h]

/-! ### The whole bytes -/
def headM : B → PS → PS
 | [], st => st
 | h :: hs, st => headM hs (if (nextM st).1 ≠ h then failM (nextM st).2 4 else (nextM st).2)
def endM (st : PS) : PS := if st.e = 0 ∧ st.s ≠ [] then failM st 4 else st
open Classical in
noncomputable def checkM (st : PS) : PS := if st.e = 0 then { st with e := if ValidP st.g then 0 else 1 } else st
noncomputable def readM (s : B) : PS := checkM (endM (cellM (s.length + 1) (headM headB ⟨s, [], [], [], 0⟩)).2)
theorem head_dead : ∀ (hs : B) {st : PS}, st.e ≠ 0 → headM hs st = st
 | [], _, _ => rfl
 | h :: hs, st, hd => by
  unfold headM
  rw [next_dead hd]
  simp only
  split
  ·rw [fail_dead hd]; exact head_dead hs hd
  ·exact head_dead hs hd
theorem head_ref : ∀ (hs : B) (st : PS), st.e = 0 → (∀ r, headF hs st.s = .ok r → headM hs st = { st with s := r }) ∧ ∀ e, headF hs st.s = .error e → (headM hs st).e = e ∧ e ≠ 0
 | [], st, h0 => ⟨fun r h => by cases h; rfl, fun e h => by cases h⟩
 | x :: hs, st, h0 => by
  cases hs2 : st.s with
  | nil =>
   refine ⟨(fun r h => by cases h), fun e h => ?_⟩
   cases h
   have hn : nextM st = (0, { st with e := 14 }) := by unfold nextM; rw [if_neg (by simp [h0]), hs2]
   unfold headM
   rw [hn]
   simp only
   have hd : ({ st with e := 14 } : PS).e ≠ 0 := by show (14 : Int) ≠ 0; decide
   split
   ·rw [fail_dead hd, head_dead hs hd]
    exact ⟨rfl, by decide⟩
   ·rw [head_dead hs hd]
    exact ⟨rfl, by decide⟩
  | cons y s =>
   have hn : nextM st = (y, { st with s := s }) := by unfold nextM; rw [if_neg (by simp [h0]), hs2]
   unfold headM headF
   rw [hn]
   simp only
   by_cases hy : y = x
   ·rw [if_pos hy, if_neg (by simp [hy])]
    have ih := head_ref hs { st with s := s } h0
    exact ih
   ·rw [if_neg hy, if_pos hy]
    refine ⟨(fun r h => by cases h), fun e h => ?_⟩
    cases h
    have h4 : (failM ({ st with s := s } : PS) 4).e = 4 := fail_e (st := { st with s := s }) h0 4
    have hd : (failM ({ st with s := s } : PS) 4).e ≠ 0 := by rw [h4]; decide
    rw [head_dead hs hd]
    exact ⟨h4, by decide⟩
theorem end_dead {st : PS} (h : st.e ≠ 0) : endM st = st := by unfold endM; rw [if_neg (by simp [h])]
theorem check_dead {st : PS} (h : st.e ≠ 0) : checkM st = st := by unfold checkM; rw [if_neg h]
theorem load_ref {s : B} (hs : s.length ≤ 20000) : (∀ p, loadS s = .ok p → (readM s).e = 0 ∧ (readM s).g = p.1 ∧ (readM s).ss = p.2) ∧ ∀ e, loadS s = .error e → (readM s).e = e ∧ e ≠ 0 := by
 unfold loadS
 rw [if_neg (by omega)]
 have hh := head_ref headB ⟨s, [], [], [], 0⟩ rfl
 unfold readM
 cases hr : headF headB s with
 | error e1 =>
  obtain ⟨h1, h2⟩ := hh.2 e1 hr
  refine ⟨(fun p h => by cases h), fun e h => ?_⟩
  cases h
  have hd : (headM headB ⟨s, [], [], [], 0⟩).e ≠ 0 := by rw [h1]; exact h2
  rw [cell_dead _ hd, end_dead hd, check_dead hd]
  exact ⟨h1, h2⟩
 | ok r =>
  have h1 := hh.1 r hr
  rw [h1]
  have hl : r.length ≤ s.length := by rw [head_ok _ _ _ hr, List.length_append]; omega
  have hc := Ref.cell (s.length + 1)
  have hst : formF (r.length + 1) ⟨r, [], [], []⟩ = formF (s.length + 1) ⟨r, [], [], []⟩ := form_stab _ _ _ (Nat.lt_succ_self _) (by show r.length < _; omega)
  simp only
  rw [hst]
  cases hf : formF (s.length + 1) ⟨r, [], [], []⟩ with
  | error e1 =>
   obtain ⟨h2, h3⟩ := hc.err ⟨r, [], [], [], 0⟩ e1 rfl hf
   refine ⟨(fun p h => by cases h), fun e h => ?_⟩
   cases h
   have hd : (cellM (s.length + 1) ⟨r, [], [], [], 0⟩).2.e ≠ 0 := by rw [h2]; exact h3
   rw [end_dead hd, check_dead hd]
   exact ⟨h2, h3⟩
  | ok q =>
   obtain ⟨i, st⟩ := q
   have h2 := hc.ok ⟨r, [], [], [], 0⟩ i st rfl hf
   rw [h2]
   simp only
   by_cases hn : st.s = []
   ·have he : endM (ofS st) = ofS st := by
     unfold endM
     rw [if_neg]
     rintro ⟨_, h⟩
     exact h hn
    rw [if_neg (by simp [hn]), he]
    unfold checkM
    rw [if_pos (show (ofS st).e = 0 from rfl)]
    have hg : (ofS st).g = st.g := rfl
    rw [hg]
    by_cases hv : ValidP st.g
    ·rw [if_pos hv, if_pos hv]
     exact ⟨fun p h => by cases h; exact ⟨rfl, rfl, rfl⟩, fun e h => by cases h⟩
    ·rw [if_neg hv, if_neg hv]
     exact ⟨(fun p h => by cases h), fun e h => by cases h; exact ⟨rfl, by decide⟩⟩
   ·have he : endM (ofS st) = failM (ofS st) 4 := by
     unfold endM
     rw [if_pos ⟨rfl, hn⟩]
    have h4 : (failM (ofS st) 4).e = 4 := fail_e rfl 4
    rw [if_pos hn, he, check_dead (by rw [h4]; decide)]
    exact ⟨(fun p h => by cases h), fun e h => by cases h; exact ⟨h4, by decide⟩⟩
end Go.Marshal

/-
 Plain: how much the program's reader holds: what it has left never grows, and each thing it holds has its byte.
-/
namespace Go.Marshal
open Go.Core

structure Le (k : Nat) (st st' : PS) : Prop where
 pot : st'.ss.length + st'.s.length ≤ st.ss.length + st.s.length + k
 s : st'.s.length ≤ st.s.length
 g : st.g.length ≤ st'.g.length
 g5 : st.g.length ≤ 500 → st'.g.length ≤ 500
 cl : st'.cells.length + st.g.length ≤ st.cells.length + st'.g.length
theorem Le.refl (st : PS) : Le 0 st st := ⟨by omega, by omega, by omega, fun h => h, by omega⟩
theorem Le.trans {k j : Nat} {a b c : PS} (h : Le k a b) (h2 : Le j b c) : Le (k + j) a c :=
 ⟨by have := h.pot; have := h2.pot; omega, Nat.le_trans h2.s h.s, Nat.le_trans h.g h2.g, fun h0 => h2.g5 (h.g5 h0), by have := h.cl; have := h2.cl; have := h.g; have := h2.g; omega⟩
theorem Le.mono {k j : Nat} {a b : PS} (h : Le k a b) (hj : k ≤ j) : Le j a b := ⟨by have := h.pot; omega, h.s, h.g, h.g5, h.cl⟩
theorem fail_le (st : PS) (e : Int) : Le 0 st (failM st e) := by unfold failM; split <;> exact ⟨by simp, by simp, by simp, fun h => h, by simp⟩
theorem next_le (st : PS) : Le 0 st (nextM st).2 := by
 unfold nextM
 split
 ·exact Le.refl st
 split
 ·exact ⟨by simp, by simp, by simp, fun h => h, by simp⟩
 ·rename_i x s h
  refine ⟨?_, ?_, by simp, fun h => h, by simp⟩ <;> · rw [h]; simp
theorem next_lt {st : PS} (h : (nextM st).2.e = 0 ∨ (nextM st).1 ≠ 0) : (nextM st).2.s.length + 1 ≤ st.s.length ∧ (nextM st).2.ss = st.ss ∧ (nextM st).2.g = st.g ∧ (nextM st).2.cells = st.cells ∧ (nextM st).2.e = st.e ∧ st.e = 0 := by
 unfold nextM at h ⊢
 split at h
 ·rename_i h1
  rcases h with h | h
  ·exact absurd h h1
  ·exact absurd rfl h
 rename_i h1
 rw [if_neg h1]
 cases hs : st.s with
 | nil =>
  rw [hs] at h
  rcases h with h | h
  ·exact absurd h (by show (14 : Int) ≠ 0; decide)
  ·exact absurd rfl h
 | cons x s => exact ⟨by simp, rfl, rfl, rfl, rfl, Classical.not_not.1 h1⟩
theorem rdQ_le : ∀ (s : B) (i : Nat), (rdQ i s).length ≤ s.length
 | [], _ => Nat.le_refl _
 | x :: s, i => by
  unfold rdQ
  split
  ·simp
  split
  ·simp
  ·exact Nat.le_trans (rdQ_le s _) (by simp)
theorem num_le (most : Nat) (st : PS) : Le 0 st (numM most st).2 := by
 have h := rdQ_le st.s 0
 unfold numM
 split
 ·exact Le.refl st
 split <;> exact ⟨by show st.ss.length + (rdQ 0 st.s).length ≤ _; omega, h, Nat.le_refl _, fun h => h, Nat.le_refl _⟩
theorem rdF_most {most : Nat} : ∀ (s : B) (i n a : Nat) (r : B), rdF most i n s = .ok (a, r) → a ≤ most
 | [], _, _, _, _, h => by unfold rdF at h; cases h
 | x :: s, i, n, a, r, h => by
  unfold rdF at h
  split at h
  ·cases h
  split at h
  ·split at h
   ·rename_i h3
    cases h
    exact h3
   ·cases h
  ·exact rdF_most s _ _ a r h
theorem num_most (most : Nat) (st : PS) : (numM most st).1 ≤ most := by
 unfold numM
 split
 ·exact Nat.zero_le _
 split
 ·rename_i n r h
  exact rdF_most _ _ _ _ _ h
 ·exact Nat.zero_le _
theorem text_le (most : Nat) (st : PS) : Le 0 st (textM most st).2 := by
 have h := num_le maxN st
 unfold textM
 split
 ·exact h
 split
 ·exact h.trans (k := 0) (j := 0) ⟨by simp, by simp, by simp, fun h => h, by simp⟩
 split
 ·exact h.trans (k := 0) (j := 0) ⟨by simp, by simp, by simp, fun h => h, by simp⟩
 ·exact h.trans (k := 0) (j := 0) ⟨by simp, by simp, by simp, fun h => h, by simp⟩
theorem sym_le (x : UInt8) (st : PS) : Le (if x = 58 then 1 else 0) st (symM x st).2 := by
 unfold symM
 split
 ·have h := text_le 40 st
  have h2 : Le 0 (textM 40 st).2 (if (textM 40 st).2.e = 0 ∧ (textM 40 st).1 ∈ (textM 40 st).2.ss then failM (textM 40 st).2 4 else (textM 40 st).2) := by
   split
   ·exact fail_le _ _
   ·exact Le.refl _
  have h3 := h.trans h2
  generalize (if (textM 40 st).2.e = 0 ∧ (textM 40 st).1 ∈ (textM 40 st).2.ss then failM (textM 40 st).2 4 else (textM 40 st).2) = q at h2 h3 ⊢
  have h4 := h.pot
  have h5 := h2.s
  exact ⟨by simp; omega, h3.s, h3.g, h3.g5, h3.cl⟩
 split
 ·have h := num_le maxN st
  split
  ·exact h
  ·exact h.trans (fail_le _ _)
 ·exact fail_le _ _
theorem nextsym_le (st : PS) : Le 0 st (symM (nextM st).1 (nextM st).2).2 := by
 have h := sym_le (nextM st).1 (nextM st).2
 by_cases hx : (nextM st).1 = 58
 ·rw [if_pos hx] at h
  obtain ⟨h1, h2, h3, h4, _⟩ := next_lt (st := st) (.inr (by rw [hx]; decide))
  have h5 := h.pot
  have h6 := h.cl
  rw [h2] at h5
  rw [h3, h4] at h6
  exact ⟨by omega, Nat.le_trans h.s (by omega), by rw [← h3]; exact h.g, fun h0 => h.g5 (by rw [h3]; exact h0), h6⟩
 ·rw [if_neg hx] at h
  exact (next_le st).trans h
theorem class_le (st : PS) : Le 0 st (classM st).2 := by
 unfold classM
 simp only
 split
 ·exact (nextsym_le st).trans (fail_le _ _)
 ·exact nextsym_le st
theorem name_le (ns : List B) (st : PS) : Le 0 st (nameM ns st).2 := by
 unfold nameM
 simp only
 split
 ·exact (nextsym_le st).trans (fail_le _ _)
 ·exact nextsym_le st
structure Takes (f : PS → Int × PS) : Prop where
 le : ∀ st, Le 0 st (f st).2
 lt : ∀ st, (f st).2.e = 0 → (f st).2.s.length < st.s.length
def liv (st : PS) : Nat := if st.e = 0 then 1 else 0
theorem items_le {f : PS → Int × PS} (hf : Takes f) : ∀ (n : Nat) (l : List Int) (st : PS), Le 0 st (itemsM f n l st).2 ∧ (itemsM f n l st).1.length + (itemsM f n l st).2.s.length + liv (itemsM f n l st).2 ≤ l.length + st.s.length + liv st
 | 0, l, st => ⟨Le.refl st, Nat.le_refl _⟩
 | n + 1, l, st => by
  unfold itemsM
  split
  ·rename_i h0
   obtain ⟨h1, h2⟩ := items_le hf n (l ++ [(f st).1]) (f st).2
   refine ⟨(hf.le st).trans h1, Nat.le_trans h2 ?_⟩
   have h3 := (hf.le st).s
   have h4 := hf.lt st
   unfold liv
   rw [if_pos h0, List.length_append, List.length_singleton]
   split
   ·rename_i h5
    have := h4 h5
    omega
   ·omega
  ·exact ⟨Le.refl st, Nat.le_refl _⟩
theorem attrs_le {f : PS → Int × PS} (hf : Takes f) : ∀ (n : Nat) (ns : List B) (l : List Int) (st : PS), Le 0 st (attrsM f n ns l st).2 ∧ (attrsM f n ns l st).1.2.length + (attrsM f n ns l st).2.s.length + liv (attrsM f n ns l st).2 ≤ l.length + st.s.length + liv st ∧ (attrsM f n ns l st).1.1.length + l.length = ns.length + (attrsM f n ns l st).1.2.length
 | 0, ns, l, st => ⟨Le.refl st, Nat.le_refl _, rfl⟩
 | n + 1, ns, l, st => by
  unfold attrsM
  split
  ·rename_i h0
   obtain ⟨h1, h2, h6⟩ := attrs_le hf n (ns ++ [(nameM ns st).1]) (l ++ [(f (nameM ns st).2).1]) (f (nameM ns st).2).2
   have h7 := name_le ns st
   refine ⟨(h7.trans (hf.le _)).trans h1, Nat.le_trans h2 ?_, ?_⟩
   ·have h3 := (hf.le (nameM ns st).2).s
    have h4 := hf.lt (nameM ns st).2
    have h8 := h7.s
    unfold liv
    rw [if_pos h0, List.length_append, List.length_singleton]
    split
    ·rename_i h5
     have := h4 h5
     omega
    ·omega
   ·simp only [List.length_append, List.length_singleton] at h6
    omega
  ·exact ⟨Le.refl st, Nat.le_refl _, rfl⟩
theorem inner_le {f : PS → Int × PS} (hf : Takes f) (x : UInt8) (st : PS) : Le (if x = 58 then 1 else 0) st (innerM f x st).2 := by
 have z : ∀ {st' : PS}, Le 0 st st' → Le (if x = 58 then 1 else 0) st st' := fun h => h.mono (Nat.zero_le _)
 have hs := sym_le x st
 generalize (if x = 58 then 1 else 0) = k at z hs ⊢
 unfold innerM
 split
 ·exact z (Le.refl _)
 split
 ·exact z (Le.refl _)
 split
 ·exact z (num_le _ _)
 split
 ·exact z (text_le _ _)
 split
 ·exact hs
 split
 ·exact z ((num_le _ _).trans (items_le hf _ _ _).1)
 split
 ·exact z ((num_le _ _).trans (items_le hf _ _ _).1)
 split
 ·exact z (((class_le st).trans (num_le _ _)).trans (attrs_le hf _ _ _ _).1)
 ·exact z (Le.refl _)
theorem ref_le (st : PS) : Le 0 st (refM st).2 := by
 have h := num_le maxN st
 unfold refM
 simp only
 split
 ·exact h
 split
 ·exact h.trans (fail_le _ _)
 ·exact h
theorem cell_takes : ∀ n : Nat, Takes (cellM n)
 | 0 => ⟨fun st => fail_le st 99, fun st h => by
   unfold cellM failM at h
   split at h
   ·exact absurd h (by show (99 : Int) ≠ 0; decide)
   ·rename_i h2; exact absurd h h2⟩
 | n + 1 => by
  have ih := cell_takes n
  have key : ∀ st, Le 0 st (cellM (n + 1) st).2 ∧ ((cellM (n + 1) st).2.e = 0 → (cellM (n + 1) st).2.s.length < st.s.length) := by
   intro st
   unfold cellM
   simp only
   have h0 := next_le st
   split
   ·rename_i h1
    exact ⟨h0, fun h => absurd h h1⟩
   rename_i h1
   obtain ⟨k1, k2, k3, k4, k5, k6⟩ := next_lt (st := st) (.inl (Classical.not_not.1 h1))
   split
   ·have h2 := ref_le (nextM st).2
    exact ⟨h0.trans h2, fun _ => Nat.lt_of_le_of_lt h2.s (by omega)⟩
   split
   ·have h2 := fail_le (nextM st).2 4
    exact ⟨h0.trans h2, fun _ => Nat.lt_of_le_of_lt h2.s (by omega)⟩
   ·rename_i h2 h3
    have h4 := inner_le ih (nextM st).1 (openM (nextM st).1 (nextM st).2)
    have o1 : (openM (nextM st).1 (nextM st).2).s = (nextM st).2.s := rfl
    have o2 : (openM (nextM st).1 (nextM st).2).ss = (nextM st).2.ss := rfl
    have o3 : (openM (nextM st).1 (nextM st).2).g.length = (nextM st).2.g.length + 1 := by unfold openM; simp
    have o4 : (openM (nextM st).1 (nextM st).2).cells.length ≤ (nextM st).2.cells.length + 1 := by unfold openM; simp only; split <;> simp
    have p1 := h4.pot
    have p2 := h4.s
    have p3 := h4.g
    have p4 := h4.g5
    have p5 := h4.cl
    rw [o1, o2] at p1
    rw [o1] at p2
    rw [o3] at p3 p4 p5
    rw [k2] at p1
    rw [k3] at p3 p4 p5
    rw [k4] at o4
    have hg : ¬ 500 ≤ (nextM st).2.g.length := fun h => h3 (.inl h)
    rw [k3] at hg
    have h58 : (if (nextM st).1 = 58 then 1 else 0) ≤ 1 := by split <;> omega
    refine ⟨⟨?_, ?_, ?_, fun _ => ?_, ?_⟩, fun _ => ?_⟩
    ·show (innerM (cellM n) (nextM st).1 (openM (nextM st).1 (nextM st).2)).2.ss.length + (innerM (cellM n) (nextM st).1 (openM (nextM st).1 (nextM st).2)).2.s.length ≤ _
     omega
    ·show (innerM (cellM n) (nextM st).1 (openM (nextM st).1 (nextM st).2)).2.s.length ≤ _
     omega
    ·show _ ≤ (List.set _ _ _).length
     rw [List.length_set]
     omega
    ·show (List.set _ _ _).length ≤ _
     rw [List.length_set]
     omega
    ·show (innerM (cellM n) (nextM st).1 (openM (nextM st).1 (nextM st).2)).2.cells.length + _ ≤ _ + (List.set _ _ _).length
     rw [List.length_set]
     omega
    ·show (innerM (cellM n) (nextM st).1 (openM (nextM st).1 (nextM st).2)).2.s.length < _
     omega
  exact ⟨fun st => (key st).1, fun st => (key st).2⟩
structure Bd (st : PS) : Prop where
 g : st.g.length ≤ 500
 cl : st.cells.length ≤ st.g.length
 pot : st.ss.length + st.s.length ≤ 30000
theorem Bd.le {st st' : PS} (b : Bd st) (h : Le 0 st st') : Bd st' := ⟨h.g5 b.g, by have := h.cl; have := b.cl; omega, by have := h.pot; have := b.pot; omega⟩
end Go.Marshal

/-
 Contracts: the reader's items (program).
-/
namespace Go.Proofs.YtgogonnnojcioaaGreatDoor
open Go.AX Go.RowKit Go.Core Go.Marshal
set_option maxRecDepth 20000

def CellC (n : Nat) : Prop := ∀ (rb : Nat) (st : PS) (p : RdP), RdOk st p → Bd st → (st.s.length < n ∨ st.e ≠ 0) → SpecH Tryz.prog 64 [.c (.v (.pointer (some ⟨rb, 0, none⟩)))] (rdE rb st p) (RetG (ι := RdP) (fun p' => RdOk (cellM n st).2 p') (fun _ => .int .i64 (cellM n st).1) fun p' => rdE rb (cellM n st).2 p')
def ownI (l : List Int) (a : Option Addr) (cap : Nat) : Ent := .app 3 1 (iC l) a l.length cap
structure ItP where
 i : Nat
 l : List Int
 st : PS
 p : RdP
 a : Option Addr
 cap : Nat
theorem items_rd (n : Nat) (hc : CellC n) (rb : Nat) (st : PS) (p : RdP) (ok : RdOk st p) (bd : Bd st) (hn : st.s.length < n ∨ st.e ≠ 0) (m : Nat) (hm2 : m ≤ 4000000000000000) : SpecH Tryz.prog 106 [.c (.v (.pointer (some ⟨rb, 0, none⟩))), .c (.v (.int .i64 (m : Int)))] (rdE rb st p ++ [.app 3 1 [] none 0 0]) (RetG (ι := RdP × Option Addr × Nat) (fun i => RdOk (itemsM (cellM n) m [] st).2 i.1 ∧ (i.2.1 = none → (itemsM (cellM n) m [] st).1 = []) ∧ (itemsM (cellM n) m [] st).1.length ≤ i.2.2) (fun i => .slice i.2.1 (itemsM (cellM n) m [] st).1.length i.2.2) fun i => rdE rb (itemsM (cellM n) m [] st).2 i.1 ++ [ownI (itemsM (cellM n) m [] st).1 i.2.1 i.2.2]) := by
 refine ownC hm Tryz.func106 (by kernel_rfl) rfl rfl (fun _ _ => okHB_eq rfl) (fun _ _ => Nat.le_of_ble_eq_true rfl) ?_
 have hI : ∀ k l st', itemsM (cellM n) (k + 1) l st' = if st'.e = 0 then itemsM (cellM n) k (l ++ [(cellM n st').1]) (cellM n st').2 else (l, st') := fun k l st' => by conv => lhs; unfold itemsM
 obtain ⟨R, hR⟩ : ∃ R, itemsM (cellM n) m [] st = R := ⟨_, rfl⟩
 rw [hR]
 have htk := cell_takes n
 (first | refine wX ?_ | exact wZ)
 refine LoopN.intro ItP (fun ⟨i, l, st, p, a, cap⟩ => itemsM (cellM n) (m - i) l st = R ∧ i ≤ m ∧ RdOk st p ∧ Bd st ∧ (st.s.length < n ∨ st.e ≠ 0) ∧ l.length + st.s.length + liv st ≤ 30001 ∧ (a = none → l = []) ∧ l.length ≤ cap)
  (fun ⟨i, l, _, _, a, cap⟩ => mkS Tryz.f106.ntmps 0 [(0, .c (.v (.pointer (some ⟨rb, 0, none⟩)))), (1, .c (.v (.int .i64 (m : Int)))), (4, .c (.v (.slice none 0 0))), (5, .c (.v (.slice a l.length cap))), (6, .c (.v (.int .i64 (i : Int))))])
  (fun ⟨_, l, st, p, a, cap⟩ => rdE rb st p ++ [ownI l a cap]) (fun ⟨_, _, st, _, _, _⟩ => if st.e = 0 then st.s.length + 1 else 0) [] rfl
  (fun _ => rfl) (fun _ => rfl) (fun _ _ => okHB_eq rfl) ⟨⟨0, [], st, p, none, 0⟩, ⟨hR, Nat.zero_le _, ok, bd, hn, ?_, fun _ => rfl, Nat.le_refl _⟩, ?_, wkH_refl _⟩ ?_
 ·have := bd.pot
  unfold liv
  show 0 + st.s.length + _ ≤ _
  split <;> omega
 ·exact wKK
 rintro ⟨i, l, st1, p1, a, cap⟩ ⟨h1, h2, h3, h4, h5, h6, h7, h8⟩
 (first | refine wX ?_ | exact wZ)
 by_cases hi : i < m
 ·rw [show decide ((i : Int) < (m : Int)) = true by simpa using hi]
  obtain ⟨k, hk⟩ : ∃ k, m - i = k + 1 := ⟨m - i - 1, by omega⟩
  rw [hk, hI] at h1
  (first | refine wX ?_ | exact wZ)
  refine LdN.one (a := some ⟨rb, 0, none⟩) (q := 4) (.int .i64 st1.e) rfl (fun w hw => hw.1) rfl ?_
  (first | refine wX ?_ | exact wZ)
  by_cases he : st1.e = 0
  ·rw [show (st1.e == 0) = true by rw [he]; rfl]
   rw [if_pos he] at h1
   (first | refine wX ?_ | exact wZ)
   refine callG (hc rb st1 p1 h3 h4 h5) [0, 1, 2, 3, 4] rfl ⟨rfl, rfl, rfl, rfl, rfl, trivial⟩ rfl fun p2 hp2 => ?_
   have hle := htk.le st1
   have hlt := htk.lt st1
   have hll : l.length ≤ 30001 := by omega
   generalize cellM n st1 = r at h1 hp2 hle hlt ⊢
   obtain ⟨z, st2⟩ := r
   simp only at h1 hp2 hle hlt
   (first | refine wX ?_ | exact wZ)
   refine Nd.mk ⟨Nat.le_refl 1, rfl, rfl⟩ ?_
   (conv => whnf)
   refine AppN.grow 5 (iC l) [.int .i64 z] rfl rfl ⟨Nat.le_refl 1, ⟨by show (l.length + 1) * 8 ≤ _; omega, by omega⟩, by decide⟩ fun b' cap' g1 g2 => ?_
   (first | refine wX ?_ | exact wZ)
   have e1 : iC l ++ [.int .i64 z] = iC (l ++ [z]) := by simp [iC]
   have e2 : l.length + 1 = (l ++ [z]).length := by simp
   rw [e1, e2]
   refine ⟨⟨i + 1, l ++ [z], st2, p2, some ⟨b', 0, none⟩, cap'⟩, ⟨by rw [← h1, show m - (i + 1) = k by omega], by show i + 1 ≤ m; omega, hp2, h4.le hle, ?_, ?_, (fun h => by cases h), by rw [← e2]; exact g1⟩, ?_, ?_, ?_⟩
   ·show st2.s.length < n ∨ _
    have := hle.s
    rcases h5 with h | h
    ·left; omega
    ·exact absurd he h
   ·show (l ++ [z]).length + st2.s.length + liv st2 ≤ _
    rw [List.length_append, List.length_singleton]
    have hs := hle.s
    unfold liv at h6 ⊢
    rw [if_pos he] at h6
    split
    ·rename_i h9
     have := hlt h9
     omega
    ·omega
   ·show (if st2.e = 0 then st2.s.length + 1 else 0) < if st1.e = 0 then st1.s.length + 1 else 0
    rw [if_pos he]
    split
    ·rename_i h9
     have := hlt h9
     omega
    ·omega
   ·exact wKK
   ·exact ⟨wkE_refl _, wkE_refl _, wkE_refl _, wkE_refl _, wkE_refl _, wkE_refl _, wkH_nil _⟩
  ·rw [show (st1.e == 0) = false by simpa using he]
   rw [if_neg he] at h1
   subst h1
   (first | refine wX ?_ | exact wZ)
   exact ⟨(p1, a, cap), ⟨h3, h7, h8⟩, rfl, wkH_refl _⟩
 ·rw [show decide ((i : Int) < (m : Int)) = false by simpa using hi]
  rw [show m - i = 0 by omega] at h1
  have h1 : (l, st1) = R := h1
  subst h1
  (first | refine wX ?_ | exact wZ)
  exact ⟨(p1, a, cap), ⟨h3, h7, h8⟩, rfl, wkH_refl _⟩
end Go.Proofs.YtgogonnnojcioaaGreatDoor

/-
 Contracts: what is known of a reader stays known (program); the two graphs of one cell.
-/
namespace Go.Marshal
open Go.Core
theorem text_len (most : Nat) (st : PS) : (textM most st).1.length ≤ st.s.length := by
 have h := (num_le maxN st).s
 unfold textM
 split
 ·simp
 split
 ·simp
 split
 ·simp
 ·rw [List.length_take]
  omega
theorem next_keep (st : PS) : (nextM st).2.ss = st.ss ∧ (nextM st).2.g = st.g ∧ (nextM st).2.cells = st.cells := by
 unfold nextM
 split
 ·exact ⟨rfl, rfl, rfl⟩
 split <;> exact ⟨rfl, rfl, rfl⟩
theorem symM_len (x : UInt8) (st : PS) (hs : st.s.length ≤ 30000) (hw : ∀ t ∈ st.ss, t.length ≤ 30000) : (symM x st).1.length ≤ 30000 := by
 unfold symM
 split
 ·exact Nat.le_trans (text_len 40 st) hs
 split
 ·split
  ·rename_i h
   have hk : (numM maxN st).2.ss = st.ss := by
    unfold numM
    split
    ·rfl
    split <;> rfl
   rw [hk] at h ⊢
   rw [List.getD_eq_getElem?_getD, List.getElem?_eq_getElem h.2]
   exact hw _ (List.getElem_mem _)
  ·exact Nat.zero_le _
 ·exact Nat.zero_le _
theorem valid_one {c : Cell} (hk : c.kind = 8) : ValidP [c] ↔ (plainS c && rangeB 1 c) = true := by
 unfold ValidP
 constructor
 ·intro ⟨_, h, _⟩
  have := h c (by simp)
  rw [cell_eq]
  exact this
 ·intro h
  refine ⟨by simp, fun d hd => ?_, fun d hd h7 => ?_⟩
  ·obtain rfl := List.mem_singleton.1 hd
   rw [cell_eq] at h
   exact h
  ·obtain rfl := List.mem_singleton.1 hd
   rw [hk] at h7
   exact absurd h7 (by decide)
theorem valid_class (t : B) : ValidP [⟨8, 0, t, [], []⟩] ↔ Go.Scan.icB t = true := by
 rw [valid_one rfl]
 unfold plainS rangeB
 simp [maxI]
theorem valid_name (t : B) : ValidP [⟨8, 0, [65], [t], [0]⟩] ↔ Go.Scan.iiB t = true := by
 rw [valid_one rfl]
 unfold plainS rangeB
 have h : Go.Scan.icB [65] = true := by decide +kernel
 simp [maxI, h]
end Go.Marshal
namespace Go.Proofs.YtgogonnnojcioaaGreatDoor
open Go.AX Go.RowKit Go.Core Go.Marshal
set_option maxRecDepth 20000

theorem RdOk.same {st st' : PS} {p : RdP} (ok : RdOk st p) (h : st'.ss = st.ss ∧ st'.g = st.g ∧ st'.cells = st.cells) : RdOk st' p :=
 ⟨by rw [h.2.1]; exact ok.g, ok.cell, ok.ga, by rw [h.2.2]; exact ok.ca, by rw [h.1]; exact ok.sa, by rw [h.1]; exact ok.sw, ok.gx⟩
theorem sym_keep (x : UInt8) (st : PS) : (symM x st).2.g = st.g ∧ (symM x st).2.cells = st.cells := by
 have kt := text_keep 40 st
 have kn := num_keep maxN st
 unfold symM
 split
 ·simp only
  split
  ·have k4 := fail_ss (textM 40 st).2 4
   exact ⟨by rw [k4.2.1, kt.2.1], by rw [k4.2.2, kt.2.2]⟩
  ·exact kt.2
 split
 ·split
  ·exact kn.2
  ·have k4 := fail_ss (numM maxN st).2 4
   exact ⟨by rw [k4.2.1, kn.2.1], by rw [k4.2.2, kn.2.2]⟩
 ·exact (fail_ss st 4).2
theorem sym_sw (x : UInt8) (st : PS) (hs : st.s.length ≤ 30000) (hw : ∀ t ∈ st.ss, t.length ≤ 30000) : ∀ t ∈ (symM x st).2.ss, t.length ≤ 30000 := by
 have kt := text_keep 40 st
 have kn := num_keep maxN st
 have tl := text_len 40 st
 unfold symM
 split
 ·intro t ht
  simp only at ht
  rw [kt.1] at ht
  rcases List.mem_append.1 ht with h | h
  ·exact hw t h
  ·rw [List.mem_singleton.1 h]; omega
 split
 ·split
  ·rw [kn.1]; exact hw
  ·rw [(fail_ss _ _).1, kn.1]; exact hw
 ·rw [(fail_ss _ _).1]; exact hw
theorem RdOk.sym {st : PS} {p : RdP} (ok : RdOk st p) (hs : st.s.length ≤ 30000) (x : UInt8) {i : Option Addr × Nat} (hi : i.1 = none → (symM x st).2.ss = []) : RdOk (symM x st).2 { p with sa := i.1, sc := i.2 } :=
 ⟨by rw [(sym_keep x st).1]; exact ok.g, ok.cell, ok.ga, by rw [(sym_keep x st).2]; exact ok.ca, hi, sym_sw x st hs ok.sw, ok.gx⟩
end Go.Proofs.YtgogonnnojcioaaGreatDoor

/-
 AX, sixtieth text: a contract on own entries, by the executor whose arms may come together.
-/
namespace Go.AX
theorem ownCJ {P : Program} (hm : P.follows .mixedOrders = true) {f : FuncId} {fn : Func} {c : Code} (hf : P.funcs[f]? = some fn) (hn : (fn.name == "runtime.NumGoroutine") = false) (hb : fn.body = some c)
  {args : List AV} {H : List Ent} (hl : Nat.ble args.length fn.ntmps = true) {ι : Type} {inv : ι → Prop} {val : ι → Value} {G : ι → List Ent} (hok : ∀ i, inv i → okH (G i).length (G i)) (hl2 : ∀ i, inv i → H.length ≤ (G i).length)
  (h : initK fn.ntmps args fun s => execJ P c s H (endK P fn.results.toList fun out H' => ∃ i, inv i ∧ out = .val (.c (.v (val i))) ∧ wkH H' (G i))) : SpecH P f args H (RetG inv val G) :=
 SpecH.wkG hok hl2 (specJ_of_exec hm hf hn hb hl h)
end Go.AX

/-
 Contracts: an object is read (program).
-/
namespace Go.Proofs.YtgogonnnojcioaaGreatDoor
open Go.AX Go.RowKit Go.Core Go.Marshal
set_option maxRecDepth 20000
def ownS (l : List (List UInt8)) (a : Option Addr) (cap : Nat) : Ent := .app 9 1 (strC l) a l.length cap
theorem class_dead {st : PS} (h : st.e ≠ 0) : (classM st).2 = st := by
 unfold classM
 simp only
 rw [next_dead h]
 have h1 : (symM 0 st).2 = st := sym_dead h
 rw [h1, if_neg (by simp [h])]
theorem name_dead {ns : List (List UInt8)} {st : PS} (h : st.e ≠ 0) : (nameM ns st).2 = st := by
 unfold nameM
 simp only
 rw [next_dead h]
 have h1 : (symM 0 st).2 = st := sym_dead h
 rw [h1, if_neg (by simp [h])]
theorem fuel_keep {n : Nat} {a b : PS} (h : a.s.length < n ∨ a.e ≠ 0) (hl : Le 0 a b) (hd : a.e ≠ 0 → b = a) : b.s.length < n ∨ b.e ≠ 0 := by
 rcases h with h | h
 ·exact .inl (Nat.lt_of_le_of_lt hl.s h)
 ·rw [hd h]; exact .inr h
theorem cell_dead_e {n : Nat} {st : PS} (h : st.e ≠ 0) : (cellM n st).2.e ≠ 0 := by
 cases n with
 | zero => show (failM st 99).e ≠ 0; rw [fail_dead h]; exact h
 | succ n => rw [cell_dead n h]; exact h
structure ObP where
 p : RdP
 na : Option Addr
 nc : Nat
 ia : Option Addr
 ic : Nat
theorem check1 (q : CellP) (cb : Nat) (hq : CellOk q) (hn : q.c.names.length ≤ 2000 ∧ q.c.items.length ≤ 2000) (b : Bool) (hb : b = true ↔ ValidP [q.c]) :
  ∀ H, (∀ w, Facts H w → SlAt (some ⟨cb, 0, none⟩) 5 (cellC q) w ∧ CellF q w) → SpecH Tryz.prog 65 (pvs [.slice (some ⟨cb, 0, none⟩) 1 1]) H (Ret (errI b) H) := by
 intro H hH
 obtain ⟨b2, hb2, h⟩ := Check_c (some ⟨cb, 0, none⟩) 1 [q] (fun h => by cases h) ⟨by simp, fun p hp => by obtain rfl := List.mem_singleton.1 hp; exact hn⟩ (fun p hp => by obtain rfl := List.mem_singleton.1 hp; exact hq) H (fun w hw => ⟨by have := (hH w hw).1; simpa [grC] using this, fun p hp => by obtain rfl := List.mem_singleton.1 hp; exact (hH w hw).2⟩)
 have e : b2 = b := by
  rw [Bool.eq_iff_iff, hb, hb2]
  rfl
 rw [← e]
 exact h
theorem slAt_nil (w : World) : SlAt none 0 [] w := ⟨rfl, fun h => absurd h (Nat.lt_irrefl 0), fun j h => absurd h (Nat.not_lt_zero j)⟩
set_option maxHeartbeats 4000000 in
theorem object_rd (n : Nat) (hc : CellC n) (rb : Nat) (st : PS) (p : RdP) (ok : RdOk st p) (bd : Bd st) (hn : st.s.length < n ∨ st.e ≠ 0) : SpecH Tryz.prog 107 [.c (.v (.pointer (some ⟨rb, 0, none⟩)))] (rdE rb st p ++ [.app 9 1 [] none 0 0, .app 3 1 [] none 0 0]) (RetG (ι := ObP) (fun i => RdOk (objM (cellM n) st).2 i.p ∧ CellOk ⟨(objM (cellM n) st).1, i.na, i.nc, i.ia, i.ic⟩) (fun i => cellV ⟨(objM (cellM n) st).1, i.na, i.nc, i.ia, i.ic⟩) fun i => rdE rb (objM (cellM n) st).2 i.p ++ [ownS (objM (cellM n) st).1.names i.na i.nc, ownI (objM (cellM n) st).1.items i.ia i.ic]) := by
 refine ownCJ hm Tryz.func107 (by kernel_rfl) rfl rfl (fun _ _ => okHB_eq rfl) (fun _ _ => Nat.le_of_ble_eq_true rfl) ?_
 have htk := cell_takes n
 have hA : ∀ k ns l st', attrsM (cellM n) (k + 1) ns l st' = if st'.e = 0 then attrsM (cellM n) k (ns ++ [(nameM ns st').1]) (l ++ [(cellM n (nameM ns st').2).1]) (cellM n (nameM ns st').2).2 else ((ns, l), st') := fun k ns l st' => by conv => lhs; unfold attrsM
 have b1 := bd.le (next_le st)
 have ok1 := ok.same (next_keep st)
 have bn := bd.le (class_le st)
 have hnc := fuel_keep hn (class_le st) class_dead
 obtain ⟨R, hR⟩ : ∃ R, objM (cellM n) st = R := ⟨_, rfl⟩
 rw [hR]
 unfold objM at hR
 obtain ⟨R2, hR2⟩ : ∃ R2, attrsM (cellM n) (numM maxN (classM st).2).1 [] [] (numM maxN (classM st).2).2 = R2 := ⟨_, rfl⟩
 rw [hR2] at hR
 have hcl : classM st = ((symM (nextM st).1 (nextM st).2).1, if (symM (nextM st).1 (nextM st).2).2.e = 0 ∧ Go.Scan.icB (symM (nextM st).1 (nextM st).2).1 = false then failM (symM (nextM st).1 (nextM st).2).2 4 else (symM (nextM st).1 (nextM st).2).2) := rfl
 have hb2 := bd.le (nextsym_le st)
 have hsym := symbol_rd rb (nextM st).1 (nextM st).2 p ok1 (by have := b1.pot; omega)
 have oks := fun i hi => ok1.sym (by have := b1.pot; omega) (nextM st).1 (i := i) hi
 have tl := symM_len (nextM st).1 (nextM st).2 (by have := b1.pot; omega) ok1.sw
 have hnx := next_m rb st p
 generalize classM st = cs at hcl bn hnc hR hR2 ⊢
 generalize nextM st = qx at hcl hb2 hsym oks tl hnx ⊢
 obtain ⟨x, s1⟩ := qx
 simp only at hcl hb2 hsym oks tl hnx
 refine SeqN.plain ?_
 (first | refine wXK ?_ | exact wZK)
 refine BoxN.own ?_
 (first | refine wXK ?_ | exact wZK)
 refine SeqN.plain ?_
 (first | refine wXK ?_ | exact wZK)
 refine callG (hnx) [0, 1, 2, 3, 4] rfl ⟨rfl, rfl, rfl, rfl, rfl, trivial⟩ rfl fun _ _ => ?_
 (first | refine wXR ?_ | exact wZR)
 refine callG hsym [0, 1, 2, 3, 4] rfl ⟨rfl, rfl, rfl, rfl, rfl, trivial⟩ rfl fun i2 hi2 => ?_
 have ok2 := oks i2 hi2
 generalize symM x s1 = qs at hcl hb2 ok2 tl ⊢
 obtain ⟨t, s2⟩ := qs
 simp only at hcl hb2 ok2 tl
 obtain ⟨p2, hp2⟩ : ∃ p2 : RdP, p2 = { p with sa := i2.1, sc := i2.2 } := ⟨_, rfl⟩
 rw [← hp2] at ok2 ⊢
 obtain ⟨t0, s3⟩ := cs
 simp only at hR hR2 bn hnc
 obtain ⟨rfl, h3⟩ : t0 = t ∧ s3 = if s2.e = 0 ∧ Go.Scan.icB t = false then failM s2 4 else s2 := ⟨congrArg Prod.fst hcl, congrArg Prod.snd hcl⟩
 clear hcl
 have ok3 : RdOk s3 p2 := by
  rw [h3]
  split
  ·exact ok2.same (fail_ss s2 4)
  ·exact ok2
 (first | refine wXK ?_ | exact wZK)
 refine BoxN.known (cellC ⟨⟨0, 0, [], [], []⟩, none, 0, none, 0⟩) rfl fun kb => ?_
 (first | refine wXK ?_ | exact wZK)
 refine EffW.appTo (i := 8) (q := 0) (ys := cellC ⟨⟨8, 0, t0, [], []⟩, none, 0, none, 0⟩) (cellC ⟨⟨8, 0, t0, [], []⟩, none, 0, none, 0⟩) 5 rfl rfl rfl rfl rfl rfl rfl (Nat.le_of_ble_eq_true rfl) rfl rfl ?_
 (first | refine wXR ?_ | exact wZR)
 refine SeqN.join Unit (fun _ => True) (fun _ => mkS Tryz.f107.ntmps 0 [(0, .c (.v (.pointer (some ⟨rb, 0, none⟩)))), (2, .c (.lp 7 0)), (3, .c (.v (.pointer (some ⟨kb, 0, none⟩))))])
  (fun _ => rdE rb s3 p2 ++ [ownS [] none 0, ownI [] none 0, .blk 57 [.v (.int .i64 0), .v (.int .i64 0), .v (.string ⟨#[]⟩), .v (.slice none 0 0), .v (.slice none 0 0)], .app 57 5 (cellC ⟨⟨8, 0, t0, [], []⟩, none, 0, none, 0⟩) (some ⟨kb, 0, none⟩) 1 1]) (fun _ _ => Nat.le_of_ble_eq_true rfl) (fun _ _ => rfl) (fun _ _ => okHB_eq rfl) ?_ ?_
 ·refine SeqN.plain ?_
  (first | refine wXR ?_ | exact wZR)
  refine LdN.one (a := some ⟨rb, 0, none⟩) (q := 4) (.int .i64 s2.e) rfl (fun w hw => hw.1) rfl ?_
  (first | refine wXR ?_ | exact wZR)
  by_cases he : s2.e = 0
  ·rw [show (s2.e == 0) = true by rw [he]; rfl]
   (first | refine wXR ?_ | exact wZR)
   refine LdN.agg (a := some ⟨kb, 0, none⟩) (q := 0) (cellC ⟨⟨8, 0, t0, [], []⟩, none, 0, none, 0⟩) rfl (fun w hw => hw.2.2.2.2.2.2.2.1) rfl (fun j _ => by rw [Nat.zero_add]) ?_
   (first | refine wXR ?_ | exact wZR)
   refine RwN.known (cellC ⟨⟨8, 0, t0, [], []⟩, none, 0, none, 0⟩) rfl fun cb => ?_
   (first | refine wXR ?_ | exact wZR)
   have hF := fun (w : World) (h : SlAt (some ⟨cb, 0, none⟩) 5 (cellC ⟨⟨8, 0, t0, [], []⟩, none, 0, none, 0⟩) w) => (show SlAt (some ⟨cb, 0, none⟩) 5 (cellC ⟨⟨8, 0, t0, [], []⟩, none, 0, none, 0⟩) w ∧ CellF ⟨⟨8, 0, t0, [], []⟩, none, 0, none, 0⟩ w from ⟨h, slAt_nil w, slAt_nil w⟩)
   have hck := check1 ⟨⟨8, 0, t0, [], []⟩, none, 0, none, 0⟩ cb ⟨fun _ => rfl, fun _ => rfl, Nat.zero_le _, Nat.zero_le _, (fun s hs => by cases hs), by show t0.length ≤ _; omega, Nat.le_refl _, Nat.le_refl _⟩ ⟨Nat.zero_le _, Nat.zero_le _⟩ (Go.Scan.icB t0) (valid_class t0).symm
   cases hic : Go.Scan.icB t0 with
   | true =>
    rw [hic] at hck h3
    rw [if_neg (fun h => by cases h.2)] at h3
    subst h3
    refine call1 (hck _ (fun w hw => hF w hw.2.2.2.2.2.2.2.2.1)) ?_
    (first | refine wXR ?_ | exact wZR)
    exact ⟨(), trivial, by (repeat' (first | exact trivial | refine And.intro (by with_reducible rfl) ?_ | (with_reducible exact wkC_refl _) | (with_reducible exact wkCs_refl _) | refine And.intro ?_ ?_)), wHH⟩
   | false =>
    rw [hic] at hck h3
    rw [if_pos ⟨he, rfl⟩] at h3
    subst h3
    refine call1 (hck _ (fun w hw => hF w hw.2.2.2.2.2.2.2.2.1)) ?_
    (first | refine wXR ?_ | exact wZR)
    refine callG (fail_m rb s2 p2 4) [0, 1, 2, 3, 4] rfl ⟨rfl, rfl, rfl, rfl, rfl, trivial⟩ rfl fun _ _ => ?_
    (first | refine wXR ?_ | exact wZR)
    exact ⟨(), trivial, by (repeat' (first | exact trivial | refine And.intro (by with_reducible rfl) ?_ | (with_reducible exact wkC_refl _) | (with_reducible exact wkCs_refl _) | refine And.intro ?_ ?_)), wHH⟩
  ·rw [show (s2.e == 0) = false by simpa using he]
   rw [if_neg (fun h => he h.1)] at h3
   subst h3
   (first | refine wXR ?_ | exact wZR)
   exact ⟨(), trivial, by (repeat' (first | exact trivial | refine And.intro (by with_reducible rfl) ?_ | (with_reducible exact wkC_refl _) | (with_reducible exact wkCs_refl _) | refine And.intro ?_ ?_)), wHH⟩
 rintro ⟨⟩ -
 refine SeqN.plain ?_
 (first | refine wXR ?_ | exact wZR)
 refine callG (number_m rb s3 p2 maxN (by decide)) [0, 1, 2, 3, 4] rfl ⟨rfl, rfl, rfl, rfl, rfl, trivial⟩ rfl fun _ _ => ?_
 have bn4 := bn.le (num_le maxN s3)
 have ok4 := ok3.same (num_keep maxN s3)
 have hm4 := num_most maxN s3
 have hn4 := fuel_keep hnc (num_le maxN s3) (fun h => by rw [num_dead h])
 generalize numM maxN s3 = qn at hR2 bn4 ok4 hm4 hn4 ⊢
 obtain ⟨m, s4⟩ := qn
 simp only at hR2 bn4 ok4 hm4 hn4
 have hm5 : m ≤ 1000000000000000 := hm4
 (first | refine wXR ?_ | exact wZR)
 refine SeqN.plain ?_
 refine SeqN.plain ?_
 (first | refine wXR ?_ | exact wZR)
 refine LoopN.intro (Nat × List (List UInt8) × List Int × PS × ObP) (fun ⟨i, ns, l, st, q⟩ => attrsM (cellM n) (m - i) ns l st = R2 ∧ i ≤ m ∧ RdOk st q.p ∧ Bd st ∧ (st.s.length < n ∨ st.e ≠ 0) ∧ l.length + st.s.length + liv st ≤ 30001 ∧ ns.length = l.length ∧ (q.na = none → ns = []) ∧ (q.ia = none → l = []) ∧ ns.length ≤ q.nc ∧ l.length ≤ q.ic ∧ ∀ s ∈ ns, s.length ≤ 30000)
  (fun ⟨i, _, _, _, _⟩ => mkS Tryz.f107.ntmps 0 [(0, .c (.v (.pointer (some ⟨rb, 0, none⟩)))), (2, .c (.lp 7 0)), (3, .c (.v (.pointer (some ⟨kb, 0, none⟩)))), (4, .c (.v (.int .i64 (m : Int)))), (5, .c (.v (.int .i64 (i : Int))))])
  (fun ⟨_, ns, l, st, ⟨p, na, nc, ia, ic⟩⟩ => rdE rb st p ++ [ownS ns na nc, ownI l ia ic, .blk 57 [.v (.int .i64 0), .v (.int .i64 0), .v (.string ⟨#[]⟩), .v (.slice none 0 0), .v (.slice none 0 0)], .app 57 5 (cellC ⟨⟨8, 0, t0, ns, l⟩, na, nc, ia, ic⟩) (some ⟨kb, 0, none⟩) 1 1]) (fun ⟨_, _, _, st, _⟩ => if st.e = 0 then st.s.length + 1 else 0) [] rfl
  (fun _ => rfl) (fun _ => rfl) (fun _ _ => okHB_eq rfl) ⟨(0, [], [], s4, ⟨p2, none, 0, none, 0⟩), ⟨hR2, Nat.zero_le _, ok4, bn4, hn4, ?_, rfl, fun _ => rfl, fun _ => rfl, Nat.le_refl _, Nat.le_refl _, fun s hs => by cases hs⟩, ?_, ?_⟩ ?_
 ·have := bn4.pot
  unfold liv
  show 0 + s4.s.length + _ ≤ _
  split <;> omega
 ·exact wKK
 ·exact ⟨wkE_refl _, wkE_refl _, wkE_refl _, wkE_refl _, wkE_refl _, wkE_refl _, wkE_refl _, wkE_refl _, wkE_refl _, wHH⟩
 rintro ⟨i, ns, l, st5, ⟨p5, na, nc, ia, ic⟩⟩ ⟨h1, h2, h3, h4, h5, h6, h7, h8, h9, h10, h11, h12⟩
 simp only at h8 h9 h10 h11 h3
 refine SeqN.plain ?_
 refine SeqN.plain ?_
 (first | refine wXR ?_ | exact wZR)
 by_cases hi : i < m
 ·rw [show decide ((i : Int) < (m : Int)) = true by simpa using hi]
  obtain ⟨k, hk⟩ : ∃ k, m - i = k + 1 := ⟨m - i - 1, by omega⟩
  rw [hk, hA] at h1
  (first | refine wXR ?_ | exact wZR)
  refine LdN.one (a := some ⟨rb, 0, none⟩) (q := 4) (.int .i64 st5.e) rfl (fun w hw => hw.1) rfl ?_
  (first | refine wXR ?_ | exact wZR)
  by_cases he5 : st5.e = 0
  ·rw [show (st5.e == 0) = true by rw [he5]; rfl]
   rw [if_pos he5] at h1
   (first | refine wXR ?_ | exact wZR)
   refine SeqN.plain ?_
   refine SeqN.plain ?_
   (first | refine wXR ?_ | exact wZR)
   refine callG (next_m rb st5 p5) [0, 1, 2, 3, 4] rfl ⟨rfl, rfl, rfl, rfl, rfl, trivial⟩ rfl fun _ _ => ?_
   have b5 := h4.le (next_le st5)
   have o5 := h3.same (next_keep st5)
   have l5 := name_le ns st5
   have d5 := fuel_keep h5 l5 name_dead
   have hnm : nameM ns st5 = ((symM (nextM st5).1 (nextM st5).2).1, if (symM (nextM st5).1 (nextM st5).2).2.e = 0 ∧ ((symM (nextM st5).1 (nextM st5).2).1 ∈ ns ∨ Go.Scan.iiB (symM (nextM st5).1 (nextM st5).2).1 = false) then failM (symM (nextM st5).1 (nextM st5).2).2 4 else (symM (nextM st5).1 (nextM st5).2).2) := rfl
   have hsy5 := symbol_rd rb (nextM st5).1 (nextM st5).2 p5 o5 (by have := b5.pot; omega)
   have os5 := fun i hi => o5.sym (by have := b5.pot; omega) (nextM st5).1 (i := i) hi
   have tl5 := symM_len (nextM st5).1 (nextM st5).2 (by have := b5.pot; omega) o5.sw
   generalize nameM ns st5 = qm at h1 hnm l5 d5
   generalize nextM st5 = qx at hnm hsy5 os5 tl5 ⊢
   obtain ⟨x5, s51⟩ := qx
   simp only at hnm hsy5 os5 tl5
   (first | refine wXR ?_ | exact wZR)
   refine callG hsy5 [0, 1, 2, 3, 4] rfl ⟨rfl, rfl, rfl, rfl, rfl, trivial⟩ rfl fun i6 hi6 => ?_
   have ok6 := os5 i6 hi6
   generalize symM x5 s51 = qs at hnm ok6 tl5 ⊢
   obtain ⟨t6, s6⟩ := qs
   simp only at hnm ok6 tl5
   obtain ⟨p6, hp6⟩ : ∃ p6 : RdP, p6 = { p5 with sa := i6.1, sc := i6.2 } := ⟨_, rfl⟩
   rw [← hp6] at ok6 ⊢
   obtain ⟨t60, s8⟩ := qm
   simp only at h1 l5 d5
   obtain ⟨rfl, h8s⟩ : t60 = t6 ∧ s8 = if s6.e = 0 ∧ (t6 ∈ ns ∨ Go.Scan.iiB t6 = false) then failM s6 4 else s6 := ⟨congrArg Prod.fst hnm, congrArg Prod.snd hnm⟩
   clear hnm
   have ok7 : RdOk s8 p6 := by
    rw [h8s]
    split
    ·exact ok6.same (fail_ss s6 4)
    ·exact ok6
   have b7 := h4.le l5
   (first | refine wXR ?_ | exact wZR)
   refine SeqN.plain ?_
   (first | refine wXR ?_ | exact wZR)
   refine RwN.known [.string (bs t60)] rfl fun nb => ?_
   (first | refine wXR ?_ | exact wZR)
   refine RwN.known [.int .i64 0] rfl fun zb => ?_
   (first | refine wXR ?_ | exact wZR)
   refine RwN.known (cellC ⟨⟨8, 0, [65], [t60], [0]⟩, some ⟨nb, 0, none⟩, 1, some ⟨zb, 0, none⟩, 1⟩) rfl fun ob => ?_
   (first | refine wXR ?_ | exact wZR)
   refine SeqN.join Unit (fun _ => True) (fun _ => mkS Tryz.f107.ntmps 0 [(0, .c (.v (.pointer (some ⟨rb, 0, none⟩)))), (2, .c (.lp 7 0)), (3, .c (.v (.pointer (some ⟨kb, 0, none⟩)))), (4, .c (.v (.int .i64 (m : Int)))), (5, .c (.v (.int .i64 (i : Int)))), (6, .c (.v (.string (bs t60))))])
    (fun _ => rdE rb s8 p6 ++ [ownS ns na nc, ownI l ia ic, .blk 57 [.v (.int .i64 0), .v (.int .i64 0), .v (.string ⟨#[]⟩), .v (.slice none 0 0), .v (.slice none 0 0)], .app 57 5 (cellC ⟨⟨8, 0, t0, ns, l⟩, na, nc, ia, ic⟩) (some ⟨kb, 0, none⟩) 1 1, .dead, .dead, .dead]) (fun _ _ => Nat.le_of_ble_eq_true rfl) (fun _ _ => rfl) (fun _ _ => okHB_eq rfl) ?_ ?_
   ·refine SeqN.plain ?_
    (first | refine wXR ?_ | exact wZR)
    refine LdN.one (a := some ⟨rb, 0, none⟩) (q := 4) (.int .i64 s6.e) rfl (fun w hw => hw.1) rfl ?_
    (first | refine wXR ?_ | exact wZR)
    have hqo : CellOk ⟨⟨8, 0, [65], [t60], [0]⟩, some ⟨nb, 0, none⟩, 1, some ⟨zb, 0, none⟩, 1⟩ := ⟨(fun h => by cases h), (fun h => by cases h), by show 1 ≤ _; omega, by show 1 ≤ _; omega, fun s hs => by obtain rfl := List.mem_singleton.1 hs; omega, by show 1 ≤ _; omega, Nat.le_refl _, Nat.le_refl _⟩
    have hck := check1 ⟨⟨8, 0, [65], [t60], [0]⟩, some ⟨nb, 0, none⟩, 1, some ⟨zb, 0, none⟩, 1⟩ ob hqo ⟨by show 1 ≤ _; omega, by show 1 ≤ _; omega⟩ (Go.Scan.iiB t60) (valid_name t60).symm
    have hll : l.length ≤ 30001 := by omega
    by_cases he6 : s6.e = 0
    ·rw [show (s6.e == 0) = true by rw [he6]; rfl]
     (first | refine wXR ?_ | exact wZR)
     refine LdN.one (a := some ⟨kb, 0, none⟩) (q := 3) (.slice na ns.length nc) rfl (fun w hw => hw.2.2.2.2.2.2.2.1) rfl ?_
     (first | refine wXR ?_ | exact wZR)
     refine call1 (Contains_m na ns nc t60 h8 (by omega) _ (fun w hw => hw.2.2.2.2.2.1)) ?_
     by_cases hmem : t60 ∈ ns
     ·rw [show decide (t60 ∈ ns) = true by simpa using hmem]
      rw [if_pos ⟨he6, .inl hmem⟩] at h8s
      subst h8s
      (first | refine wXR ?_ | exact wZR)
      refine callG (fail_m rb s6 p6 4) [0, 1, 2, 3, 4] rfl ⟨rfl, rfl, rfl, rfl, rfl, trivial⟩ rfl fun _ _ => ?_
      (first | refine wXR ?_ | exact wZR)
      exact ⟨(), trivial, by (repeat' (first | exact trivial | refine And.intro (by with_reducible rfl) ?_ | (with_reducible exact wkC_refl _) | (with_reducible exact wkCs_refl _) | refine And.intro ?_ ?_)), wHH⟩
     ·rw [show decide (t60 ∈ ns) = false by simpa using hmem]
      (first | refine wXR ?_ | exact wZR)
      cases hii : Go.Scan.iiB t60 with
      | true =>
       rw [hii] at hck h8s
       rw [if_neg (fun h => h.2.elim hmem (fun h => by cases h))] at h8s
       subst h8s
       refine call1 (hck _ (fun w hw => ⟨hw.2.2.2.2.2.2.2.2.2.2.1, hw.2.2.2.2.2.2.2.2.1, hw.2.2.2.2.2.2.2.2.2.1⟩)) ?_
       (first | refine wXR ?_ | exact wZR)
       exact ⟨(), trivial, by (repeat' (first | exact trivial | refine And.intro (by with_reducible rfl) ?_ | (with_reducible exact wkC_refl _) | (with_reducible exact wkCs_refl _) | refine And.intro ?_ ?_)), wHH⟩
      | false =>
       rw [hii] at hck h8s
       rw [if_pos ⟨he6, .inr rfl⟩] at h8s
       subst h8s
       refine call1 (hck _ (fun w hw => ⟨hw.2.2.2.2.2.2.2.2.2.2.1, hw.2.2.2.2.2.2.2.2.1, hw.2.2.2.2.2.2.2.2.2.1⟩)) ?_
       (first | refine wXR ?_ | exact wZR)
       refine callG (fail_m rb s6 p6 4) [0, 1, 2, 3, 4] rfl ⟨rfl, rfl, rfl, rfl, rfl, trivial⟩ rfl fun _ _ => ?_
       (first | refine wXR ?_ | exact wZR)
       exact ⟨(), trivial, by (repeat' (first | exact trivial | refine And.intro (by with_reducible rfl) ?_ | (with_reducible exact wkC_refl _) | (with_reducible exact wkCs_refl _) | refine And.intro ?_ ?_)), wHH⟩
    ·rw [show (s6.e == 0) = false by simpa using he6]
     rw [if_neg (fun h => he6 h.1)] at h8s
     subst h8s
     (first | refine wXR ?_ | exact wZR)
     exact ⟨(), trivial, by (repeat' (first | exact trivial | refine And.intro (by with_reducible rfl) ?_ | (with_reducible exact wkC_refl _) | (with_reducible exact wkCs_refl _) | refine And.intro ?_ ?_)), wHH⟩
   rintro ⟨⟩ -
   have hll : l.length ≤ 30001 := by omega
   refine SeqN.plain ?_
   (first | refine wX ?_ | exact wZ)
   refine LdN.one (a := some ⟨kb, 0, none⟩) (q := 3) (.slice na ns.length nc) rfl (fun w hw => hw.2.2.2.2.2.2.2.1) rfl ?_
   (first | refine wX ?_ | exact wZ)
   refine Nd.mk ⟨Nat.le_refl 1, rfl, rfl⟩ ?_
   (conv => whnf)
   refine AppN.grow 5 (strC ns) [.string (bs t60)] rfl rfl ⟨Nat.le_refl 1, ⟨by show (ns.length + 1) * 16 ≤ _; omega, by omega⟩, by decide⟩ fun nb' nc' g1 g2 => ?_
   (first | refine wX ?_ | exact wZ)
   refine EffW.appTo (i := 8) (q := 3) (ys := [_]) (cellC ⟨⟨8, 0, t0, ns ++ [t60], l⟩, some ⟨nb', 0, none⟩, nc', ia, ic⟩) 5 rfl rfl rfl rfl rfl rfl rfl (Nat.le_of_ble_eq_true rfl) (by simp [cellC]) rfl ?_
   (first | refine wXD ?_ | exact wZD)
   refine DrawN.planC (fun w => SlAt (some ⟨kb, 0, none⟩) 5 (cellC ⟨⟨8, 0, t0, ns ++ [t60], l⟩, some ⟨nb', 0, none⟩, nc', ia, ic⟩) w) [0, 2] [(1, 1), (3, 0), (4, 0), (5, 0), (6, 2)] [(7, 0)] (by decide +kernel) (fun w hw => hw.2.2.2.2.2.2.2.1) ?_
   ((conv => whnf); (repeat ((first | refine Nd.mk (fun w hw => hw.2.2.2.2.2.2.2.1) ?_ | refine RwN.own ?_ | refine VrN.norm (wrap_i64 (by omega)) ?_ | refine VrN.keep ?_ | refine Nd.mk (by decide +kernel) ?_ | refine Nd.mk (by omega) ?_ | refine RdN.intro _ rfl (by rfl) ?_); (conv => whnf))))
   refine ReadC.one (a := some ⟨kb, 0, none⟩) (q := 4) (.slice ia l.length ic) rfl rfl rfl (fun w hw => hw) rfl ?_
   ((conv => whnf); (repeat ((first | refine Nd.mk (fun w hw => hw.2.2.2.2.2.2.2.1) ?_ | refine RwN.own ?_ | refine VrN.norm (wrap_i64 (by omega)) ?_ | refine VrN.keep ?_ | refine Nd.mk (by decide +kernel) ?_ | refine Nd.mk (by omega) ?_ | refine RdN.intro _ rfl (by rfl) ?_); (conv => whnf))))
   refine callG (hc rb s8 p6 ok7 b7 d5) [0, 1, 2, 3, 4] rfl ⟨rfl, rfl, rfl, rfl, rfl, trivial⟩ rfl fun p7 hp7 => ?_
   have hle := htk.le s8
   have hlt := htk.lt s8
   have hdd := cell_dead_e (n := n) (st := s8)
   generalize cellM n s8 = r at h1 hp7 hle hlt hdd ⊢
   obtain ⟨z, s7⟩ := r
   simp only at h1 hp7 hle hlt hdd
   ((conv => whnf); (repeat ((first | refine Nd.mk (fun w hw => hw.2.2.2.2.2.2.2.1) ?_ | refine RwN.own ?_ | refine VrN.norm (wrap_i64 (by omega)) ?_ | refine VrN.keep ?_ | refine Nd.mk (by decide +kernel) ?_ | refine Nd.mk (by omega) ?_ | refine RdN.intro _ rfl (by rfl) ?_); (conv => whnf))))
   refine Nd.mk ⟨Nat.le_refl 1, rfl, rfl⟩ ?_
   (conv => whnf)
   refine AppN.grow 6 (iC l) [.int .i64 z] rfl rfl ⟨Nat.le_refl 1, ⟨by show (l.length + 1) * 8 ≤ _; omega, by omega⟩, by decide⟩ fun ib' ic' g3 g4 => ?_
   ((conv => whnf); (repeat ((first | refine Nd.mk (fun w hw => hw.2.2.2.2.2.2.2.1) ?_ | refine RwN.own ?_ | refine VrN.norm (wrap_i64 (by omega)) ?_ | refine VrN.keep ?_ | refine Nd.mk (by decide +kernel) ?_ | refine Nd.mk (by omega) ?_ | refine RdN.intro _ rfl (by rfl) ?_); (conv => whnf))))
   have e1 : iC l ++ [.int .i64 z] = iC (l ++ [z]) := by simp [iC]
   have e2 : l.length + 1 = (l ++ [z]).length := by simp
   have e3 : strC ns ++ [.string (bs t60)] = strC (ns ++ [t60]) := by simp [strC]
   have e4 : ns.length + 1 = (ns ++ [t60]).length := by simp
   refine EffW.appTo (i := 8) (q := 4) (ys := [_]) (cellC ⟨⟨8, 0, t0, ns ++ [t60], l ++ [z]⟩, some ⟨nb', 0, none⟩, nc', some ⟨ib', 0, none⟩, ic'⟩) 5 rfl rfl rfl rfl rfl rfl rfl (Nat.le_of_ble_eq_true rfl) (by simp [cellC]) rfl ?_
   ((conv => whnf); (repeat ((first | refine Nd.mk (fun w hw => hw.2.2.2.2.2.2.2.1) ?_ | refine RwN.own ?_ | refine VrN.norm (wrap_i64 (by omega)) ?_ | refine VrN.keep ?_ | refine Nd.mk (by decide +kernel) ?_ | refine Nd.mk (by omega) ?_ | refine RdN.intro _ rfl (by rfl) ?_); (conv => whnf))))
   (first | refine wXR ?_ | exact wZR)
   rw [e1, e2, e3, e4]
   refine ⟨(i + 1, ns ++ [t60], l ++ [z], s7, ⟨p7, some ⟨nb', 0, none⟩, nc', some ⟨ib', 0, none⟩, ic'⟩), ⟨by rw [← h1, show m - (i + 1) = k by omega], by show i + 1 ≤ m; omega, hp7, b7.le hle, ?_, ?_, by simp; omega, (fun h => by cases h), (fun h => by cases h), by rw [← e4]; exact g1, by rw [← e2]; exact g3, ?_⟩, ?_, ?_, ?_⟩
   ·rcases d5 with h | h
    ·exact .inl (Nat.lt_of_le_of_lt hle.s h)
    ·exact .inr (hdd h)
   ·rw [List.length_append, List.length_singleton]
    have hs := hle.s
    have hs5 := l5.s
    unfold liv at h6 ⊢
    rw [if_pos he5] at h6
    split
    ·rename_i h9
     have := hlt h9
     omega
    ·omega
   ·intro y hy
    rcases List.mem_append.1 hy with h | h
    ·exact h12 y h
    ·rw [List.mem_singleton.1 h]; exact tl5
   ·show (if s7.e = 0 then s7.s.length + 1 else 0) < if st5.e = 0 then st5.s.length + 1 else 0
    rw [if_pos he5]
    have hs5 := l5.s
    split
    ·rename_i h9
     have := hlt h9
     omega
    ·omega
   ·exact wKK
   ·exact ⟨wkE_refl _, wkE_refl _, wkE_refl _, wkE_refl _, wkE_refl _, wkE_refl _, wkE_refl _, wkE_refl _, wkE_refl _, wHH⟩
  ·rw [show (st5.e == 0) = false by simpa using he5]
   rw [if_neg he5] at h1
   subst h1
   subst hR
   (first | refine wXR ?_ | exact wZR)
   refine SeqN.plain ?_
   (first | refine wXR ?_ | exact wZR)
   refine LdN.agg (a := some ⟨kb, 0, none⟩) (q := 0) (cellC ⟨⟨8, 0, t0, ns, l⟩, na, nc, ia, ic⟩) rfl (fun w hw => hw.2.2.2.2.2.2.2.1) rfl (fun j _ => by rw [Nat.zero_add]) ?_
   (first | refine wXR ?_ | exact wZR)
   exact ⟨⟨p5, na, nc, ia, ic⟩, ⟨h3, ⟨h8, h9, by show ns.length ≤ _; omega, by show l.length ≤ _; omega, fun s hs => Nat.le_trans (h12 s hs) (by omega), by show t0.length ≤ _; omega, h10, h11⟩⟩, rfl, wkE_refl _, wkE_refl _, wkE_refl _, wkE_refl _, wkE_refl _, wkE_refl _, wkE_refl _, wkH_nil _⟩
 ·rw [show decide ((i : Int) < (m : Int)) = false by simpa using hi]
  rw [show m - i = 0 by omega] at h1
  have h1 : ((ns, l), st5) = R2 := h1
  subst h1
  subst hR
  (first | refine wXR ?_ | exact wZR)
  refine SeqN.plain ?_
  (first | refine wXR ?_ | exact wZR)
  refine LdN.agg (a := some ⟨kb, 0, none⟩) (q := 0) (cellC ⟨⟨8, 0, t0, ns, l⟩, na, nc, ia, ic⟩) rfl (fun w hw => hw.2.2.2.2.2.2.2.1) rfl (fun j _ => by rw [Nat.zero_add]) ?_
  (first | refine wXR ?_ | exact wZR)
  exact ⟨⟨p5, na, nc, ia, ic⟩, ⟨h3, ⟨h8, h9, by show ns.length ≤ _; omega, by show l.length ≤ _; omega, fun s hs => Nat.le_trans (h12 s hs) (by omega), by show t0.length ≤ _; omega, h10, h11⟩⟩, rfl, wkE_refl _, wkE_refl _, wkE_refl _, wkE_refl _, wkE_refl _, wkE_refl _, wkE_refl _, wkH_nil _⟩
end Go.Proofs.YtgogonnnojcioaaGreatDoor
