/-
  MarshalChangedCardSaid is proved: of every numbers MarshalChanged returns true; the listed tables are tied to the program's text.
-/
import Derived.Test.YtgogonnnojcioaaGreatDoorCards
import Derived.Test.YtgogonnnojcioaaGreatDoorTie
import Derived.Test.YtgogonnnojcioaaGreatDoorMch10
set_option linter.unusedVariables false
set_option linter.unusedSimpArgs false
namespace Go.Proofs.YtgogonnnojcioaaGreatDoor
open Go.AX Go.RowKit Go.Core
set_option maxRecDepth 20000
set_option maxHeartbeats 1000000 in
theorem Alike2_c (a b : Option Addr) (ca cb : Nat) (l m : List CellP) (ha : a = none → l = []) (hb : b = none → m = []) (hl : l.length ≤ 200000000000000) (hol : ∀ p ∈ l, CellOk p) (hom : ∀ p ∈ m, CellOk p) (r : Bool) (hr : r = true ↔ l.map (·.c) = m.map (·.c)) :
  ∀ H, (∀ w, Facts H w → GrF a l w ∧ GrF b m w) → SpecH Tryz.prog 27 (pvs [.slice a l.length ca, .slice b m.length cb]) H (Ret (.bool r) H) := by
 refine factC hm Tryz.func27 (by kernel_rfl) rfl rfl ?_
 refine wX ?_
 refine brd_ne (fun h0 => ?_) (fun h0 => ?_)
 ·refine wX ?_
  exact out_bool (bool_no hr fun e => h0 (by have := congrArg List.length e; simp only [List.length_map] at this; omega))
 have hlen : l.length = m.length := by omega
 refine wX ?_
 refine loopS Nat (fun i => i ≤ l.length ∧ (l.map (·.c)).take i = (m.map (·.c)).take i) (fun i => mkS Tryz.f27.ntmps 0 [(0, .c (.v (.slice a l.length ca))), (1, .c (.v (.slice b m.length cb))), (5, .c (.v (.int .i64 (i : Int))))]) (fun i => l.length - i) rfl (fun _ => rfl) 0 ⟨Nat.zero_le _, rfl⟩ ?_ ?_
 ·exact wKK
 intro i ⟨hi, he⟩
 refine wX ?_
 refine brd_dec (fun h1 => ?_) (fun h1 => ?_)
 ·obtain ⟨p, hp⟩ : ∃ p, l[i]? = some p := ⟨_, List.getElem?_eq_getElem (by omega)⟩
  obtain ⟨q, hq⟩ : ∃ q, m[i]? = some q := ⟨_, List.getElem?_eq_getElem (by omega)⟩
  have hpc : (l.map (·.c))[i]? = some p.c := by rw [List.getElem?_map, hp]; rfl
  have hqc : (m.map (·.c))[i]? = some q.c := by rw [List.getElem?_map, hq]; rfl
  have hno : p.c ≠ q.c → ¬ l.map (·.c) = m.map (·.c) := fun h e => h (by
   rw [e] at hpc
   exact Option.some.inj (hpc.symm.trans hqc))
  have hpo := hol p (List.mem_of_getElem? hp)
  have hqo := hom q (List.mem_of_getElem? hq)
  have hpm := List.mem_of_getElem? hp
  have hqm := List.mem_of_getElem? hq
  have hil := hpo.il
  have hsa : a.isSome = true := by
   cases a with
   | none => rw [ha rfl] at hp; cases hp
   | some b => rfl
  have hsb : b.isSome = true := by
   cases b with
   | none => rw [hb rfl] at hq; cases hq
   | some b => rfl
  refine wX ?_
  refine Nd.mk ⟨hsa, by omega, by omega⟩ ?_
  refine wX ?_
  refine LdN.agg (cellC p) rfl (fun w hw => hw.1.1.1) rfl (fun k hk => by rw [Int.toNat_natCast]; exact grC_get l i k hk hp) ?_
  refine wX ?_
  refine Nd.mk ⟨hsb, by omega, by omega⟩ ?_
  refine wX ?_
  refine LdN.agg (cellC q) rfl (fun w hw => hw.1.2.1) rfl (fun k hk => by rw [Int.toNat_natCast]; exact grC_get m i k hk hq) ?_
  refine wX ?_
  have hal := alike_c p q hpo hqo
  refine callQ (hal _ ?_) ?_
  ·intro w hw
   exact ⟨hw.1.1.2 p hpm, hw.1.2.2 q hqm⟩
  cases hab : alikeB p.c q.c with
  | false =>
   refine wX ?_
   exact out_bool (bool_no hr (hno fun e => by
    rw [e, alike_refl] at hab
    cases hab))
  | true =>
  have hal := alike_to hab
  have hil2 := hal.2.2.2.2
  refine wX ?_
  refine loopS Nat (fun k => k ≤ p.c.items.length ∧ p.c.items.take k = q.c.items.take k) (fun k => mkS Tryz.f27.ntmps 0 [(0, .c (.v (.slice a l.length ca))), (1, .c (.v (.slice b m.length cb))), (5, .c (.v (.int .i64 (i : Int)))), (6, .c (.v (.int .i64 (k : Int))))]) (fun k => p.c.items.length - k) rfl (fun _ => rfl) 0 ⟨Nat.zero_le _, rfl⟩ ?_ ?_
  ·exact wKK
  intro k ⟨hk, hke⟩
  refine wX ?_
  refine Nd.mk ⟨hsa, by omega, by omega⟩ ?_
  refine wX ?_
  refine LdN.fld (.slice p.ia p.c.items.length p.ic) rfl (fun w hw => hw.1.1.1) (by rw [Int.toNat_natCast]; exact grC_get l i 4 (by decide) hp) ?_
  refine wX ?_
  refine brd_dec (fun h2 => ?_) (fun h2 => ?_)
  ·obtain ⟨x, hx⟩ : ∃ x, p.c.items[k]? = some x := ⟨_, List.getElem?_eq_getElem (by omega)⟩
   obtain ⟨y, hx2⟩ : ∃ z, q.c.items[k]? = some z := ⟨_, List.getElem?_eq_getElem (by omega)⟩
   have hkq := (List.getElem?_eq_some_iff.1 hx2).1
   have hsi : p.ia.isSome = true := by
    cases hna : p.ia with
    | none => rw [hpo.ia hna] at hx; cases hx
    | some b => rfl
   have hsj : q.ia.isSome = true := by
    cases hna : q.ia with
    | none => rw [hqo.ia hna] at hx2; cases hx2
    | some b => rfl
   refine wX ?_
   refine Nd.mk ⟨hsa, by omega, by omega⟩ ?_
   refine wX ?_
   refine LdN.fld (.slice p.ia p.c.items.length p.ic) rfl (fun w hw => hw.1.1.1) (by rw [Int.toNat_natCast]; exact grC_get l i 4 (by decide) hp) ?_
   refine wX ?_
   refine Nd.mk ⟨hsi, by omega, by omega⟩ ?_
   refine wX ?_
   refine LdN.one (.int .i64 x) rfl (fun w hw => (hw.1.1.2 p hpm).2) (by rw [Int.toNat_natCast]; show (iC p.c.items)[k * 1]? = _; rw [Nat.mul_one]; exact iC_get hx) ?_
   refine wX ?_
   refine Nd.mk ⟨hsb, by omega, by omega⟩ ?_
   refine wX ?_
   refine LdN.fld (.slice q.ia q.c.items.length q.ic) rfl (fun w hw => hw.1.2.1) (by rw [Int.toNat_natCast]; exact grC_get m i 4 (by decide) hq) ?_
   refine wX ?_
   refine Nd.mk ⟨hsj, by omega, by omega⟩ ?_
   refine wX ?_
   refine LdN.one (.int .i64 y) rfl (fun w hw => (hw.1.2.2 q hqm).2) (by rw [Int.toNat_natCast]; show (iC q.c.items)[k * 1]? = _; rw [Nat.mul_one]; exact iC_get hx2) ?_
   refine wX ?_
   refine brd_ne (fun h => ?_) (fun h => ?_)
   ·refine wX ?_
    exact out_bool (bool_no hr (hno fun e => h (by
     rw [e] at hx
     exact Option.some.inj (hx.symm.trans hx2))))
   refine wX ?_
   refine ⟨k + 1, ⟨by omega, take_next hke hx hx2 h⟩, by omega, ?_, wHH⟩
   exact wKK
  ·obtain rfl : k = p.c.items.length := by omega
   rw [List.take_length, hil2, List.take_length] at hke
   have hpq : p.c = q.c := cellE_iff.1 (by
    unfold cellE
    rw [hal.1, hal.2.1, hal.2.2.1, hal.2.2.2.1, hke]
    simp)
   refine wX ?_
   refine ⟨i + 1, ⟨by omega, take_next he hpc hqc hpq⟩, by omega, ?_, wHH⟩
   exact wKK
 ·obtain rfl : i = l.length := by omega
  rw [List.take_of_length_le (by simp), List.take_of_length_le (by simp; omega)] at he
  refine wX ?_
  exact out_bool (hr.2 he).symm
end Go.Proofs.YtgogonnnojcioaaGreatDoor
namespace Go.Marshal
open Go.Core
theorem head_le : ∀ (hs : B) (st : PS), Le 0 st (headM hs st)
 | [], st => Le.refl st
 | h :: hs, st => by
  have h1 : Le 0 st (if (nextM st).1 ≠ h then failM (nextM st).2 4 else (nextM st).2) := by
   split
   ·exact (next_le st).trans (fail_le _ 4)
   ·exact next_le st
  exact h1.trans (head_le hs _)
theorem head_g : ∀ (hs : B) (st : PS), (headM hs st).g = st.g
 | [], st => rfl
 | h :: hs, st => by
  have h1 : (if (nextM st).1 ≠ h then failM (nextM st).2 4 else (nextM st).2).g = st.g := by
   split
   ·rw [fail_g, next_g]
   ·rw [next_g]
  show (headM hs _).g = _
  rw [head_g hs _, h1]
theorem load_wide {s : B} {g : List Cell} {ss : List B} (h : loadS s = .ok (g, ss)) : g.length ≤ 500 ∧ ss.length ≤ 30000 ∧ ∀ c ∈ g, c.names.length ≤ 30001 ∧ c.items.length ≤ 30001 := by
 by_cases hs : s.length ≤ 20000
 ·obtain ⟨_, h2, h3⟩ := (load_ref hs).1 _ h
  have h3 : (readM s).ss = ss := h3
  have h2 : (readM s).g = g := h2
  have b0 : Bd ⟨s, [], [], [], 0⟩ := ⟨Nat.zero_le _, Nat.le_refl _, by show 0 + s.length ≤ _; omega⟩
  have b1 := b0.le (head_le headB ⟨s, [], [], [], 0⟩)
  have b2 := b1.le ((cell_takes (s.length + 1)).le (headM headB ⟨s, [], [], [], 0⟩))
  have hw := cell_wd (s.length + 1) _ b1 (by unfold Wd; rw [head_g]; intro c hc; cases hc)
  have hg : (readM s).g = (cellM (s.length + 1) (headM headB ⟨s, [], [], [], 0⟩)).2.g := by
   unfold readM checkM endM
   split <;> split <;> first | rfl | exact fail_g _ _
  have hq : (readM s).ss = (cellM (s.length + 1) (headM headB ⟨s, [], [], [], 0⟩)).2.ss := by
   have hf : ∀ (a : PS) (e : Int), (failM a e).ss = a.ss := fun a e => by unfold failM; split <;> rfl
   unfold readM checkM endM
   split <;> split <;> first | rfl | exact hf _ _
  rw [← h2, ← h3, hg, hq]
  exact ⟨b2.g, by have := b2.pot; omega, hw⟩
 ·unfold loadS at h
  rw [if_pos (by omega)] at h
  cases h
def gR (R : Except Int (List Cell × List B)) : List Cell := match R with
 | .ok p => p.1
 | .error _ => []
def sR (R : Except Int (List Cell × List B)) : List B := match R with
 | .ok p => p.2
 | .error _ => []
end Go.Marshal
namespace Go.Proofs.YtgogonnnojcioaaGreatDoor
open Go.AX Go.RowKit Go.Core Go.Marshal
set_option maxRecDepth 20000
theorem LoadR.uni {R : Except Int (List Cell × List (List UInt8))} {v : Value} {G : World → Prop} (h : LoadR R v G) : ∃ (a : Option Addr) (c : Nat) (m : List CellP), v = .tuple #[.slice a m.length c, .int .i64 (errS R)] ∧ m.map (·.c) = gR R ∧ (a = none → m = []) ∧ (∀ q ∈ m, CellOk q) ∧ ∀ w, G w → GrF a m w := by
 cases R with
 | error e => exact ⟨none, 0, [], h, rfl, fun _ => rfl, (fun q hq => by cases hq), fun w _ => ⟨slAt_nil w, fun q hq => by cases hq⟩⟩
 | ok p =>
  obtain ⟨g, ss⟩ := p
  obtain ⟨v1, rfl, a, c, m, rfl, h2, h3, h4, h5⟩ := h
  exact ⟨a, c, m, rfl, h2, h3, h4, h5⟩
theorem SymsR.uni {R : Except Int (List Cell × List (List UInt8))} {v : Value} {G : World → Prop} (h : SymsR R v G) : ∃ (a : Option Addr) (c : Nat), v = .tuple #[.slice a (sR R).length c, .int .i64 (errS R)] ∧ (a = none → sR R = []) ∧ ∀ w, G w → SlAt a ((sR R).length * 1) (strC (sR R)) w := by
 cases R with
 | error e => exact ⟨none, 0, h, fun _ => rfl, fun w _ => slAt_nil w⟩
 | ok p =>
  obtain ⟨g, ss⟩ := p
  obtain ⟨v1, rfl, a, c, rfl, h2, h3⟩ := h
  exact ⟨a, c, rfl, h2, h3⟩
theorem same_l (a b : Option Addr) (ca cb : Nat) (l m : List (List UInt8)) (ha : a = none → l = []) (hb : b = none → m = []) (hl : l.length ≤ 1000000) (r : Bool) (hr : r = true ↔ l = m) :
  ∀ H, (∀ w, Facts H w → SlAt a (l.length * 1) (strC l) w ∧ SlAt b (m.length * 1) (strC m) w) → SpecH Tryz.prog 40 (pvs [.slice a l.length ca, .slice b m.length cb]) H (Ret (.bool r) H) := by
 refine factC hm Tryz.func40 (by kernel_rfl) rfl rfl ?_
 refine wX ?_
 refine brd_ne (fun h0 => ?_) (fun h0 => ?_)
 ·refine wX ?_
  exact out_bool (bool_no hr fun e => h0 (by rw [e]))
 have hlen : l.length = m.length := by omega
 refine wX ?_
 refine loopS Nat (fun i => i ≤ l.length ∧ l.take i = m.take i) (fun i => mkS Tryz.f40.ntmps 0 [(0, .c (.v (.slice a l.length ca))), (1, .c (.v (.slice b m.length cb))), (5, .c (.v (.int .i64 (i : Int))))]) (fun i => l.length - i) rfl (fun _ => rfl) 0 ⟨Nat.zero_le _, rfl⟩ ?_ ?_
 ·exact wKK
 intro i ⟨hi, he⟩
 refine wX ?_
 refine brd_dec (fun h1 => ?_) (fun h1 => ?_)
 ·obtain ⟨p, hp⟩ : ∃ p, l[i]? = some p := ⟨_, List.getElem?_eq_getElem (by omega)⟩
  obtain ⟨q, hq⟩ : ∃ q, m[i]? = some q := ⟨_, List.getElem?_eq_getElem (by omega)⟩
  have hsa : a.isSome = true := by
   cases a with
   | none => rw [ha rfl] at hp; cases hp
   | some b => rfl
  have hsb : b.isSome = true := by
   cases b with
   | none => rw [hb rfl] at hq; cases hq
   | some b => rfl
  refine wX ?_
  refine Nd.mk ⟨hsa, by omega, by omega⟩ ?_
  refine wX ?_
  refine LdN.one (.string (bs p)) rfl (fun w hw => hw.1.1) (by show (strC l)[Int.toNat _ * 1]? = _; rw [Int.toNat_natCast, Nat.mul_one]; exact strC_get hp) ?_
  refine wX ?_
  refine Nd.mk ⟨hsb, by omega, by omega⟩ ?_
  refine wX ?_
  refine LdN.one (.string (bs q)) rfl (fun w hw => hw.1.2) (by show (strC m)[Int.toNat _ * 1]? = _; rw [Int.toNat_natCast, Nat.mul_one]; exact strC_get hq) ?_
  refine wX ?_
  have hpq : ((bs p).data.toList == (bs q).data.toList) = (p == q) := by rw [bs_list, bs_list]
  rw [hpq]
  by_cases hc : p = q
  ·rw [show (p == q) = true by rw [hc]; simp]
   refine wX ?_
   refine ⟨i + 1, ⟨by omega, ?_⟩, by omega, ?_, wHH⟩
   ·rw [List.take_add_one, List.take_add_one, he, hp, hq, hc]
   ·exact wKK
  ·rw [show (p == q) = false by simpa using hc]
   refine wX ?_
   exact out_bool (bool_no hr fun e => hc (by rw [e, hq] at hp; exact (Option.some.inj hp).symm))
 ·have hie : i = l.length := by omega
  subst hie
  rw [List.take_length, hlen, List.take_length] at he
  refine wX ?_
  exact out_bool (hr.2 he).symm
theorem loads_c (s : List UInt8) : ∀ H, SpecH Tryz.prog 15 (pvs [.string (bs s)]) H (Ret (.bool true) H) := by
 refine pureC hm Tryz.func15 (by kernel_rfl) rfl rfl ?_
 ((conv => whnf); (repeat ((first | refine VrN.keep ?_ | refine BoxN.own ?_ | refine RwN.own ?_); (conv => whnf))))
 refine SpecF.call (Load_c s) (fun _ _ => trivial) fun v1 G1 hR1 => ?_
 obtain ⟨a1, c1, m1, rfl, hm1, ha1, hk1, hG1⟩ := hR1.uni
 refine wX ?_
 refine SpecF.call (RLoad_c s) (fun _ _ => trivial) fun v2 G2 hR2 => ?_
 obtain ⟨a2, c2, m2, rfl, hm2, ha2, hk2, hG2⟩ := hR2.uni
 refine wX ?_
 refine SpecF.call (Symbols_c s) (fun _ _ => trivial) fun v3 G3 hR3 => ?_
 obtain ⟨a3, c3, rfl, ha3, hG3⟩ := hR3.uni
 refine wX ?_
 refine SpecF.call (RSymbols_c s) (fun _ _ => trivial) fun v4 G4 hR4 => ?_
 obtain ⟨a4, c4, rfl, ha4, hG4⟩ := hR4.uni
 have hwide : m1.length ≤ 500 ∧ ∀ p ∈ m1, p.c.names.length ≤ 30001 ∧ p.c.items.length ≤ 30001 := by
  have h : (gR (loadS s)).length ≤ 500 ∧ ∀ c ∈ gR (loadS s), c.names.length ≤ 30001 ∧ c.items.length ≤ 30001 := by
   cases hl : loadS s with
   | error e => exact ⟨Nat.zero_le _, fun c hc => by cases hc⟩
   | ok p =>
    have h := load_wide (g := p.1) (ss := p.2) hl
    exact ⟨h.1, h.2.2⟩
  rw [← hm1, List.length_map] at h
  exact ⟨h.1, fun p hp => h.2 p.c (List.mem_map.2 ⟨p, hp, rfl⟩)⟩
 have hss : (sR (loadS s)).length ≤ 1000000 := by
  cases hl : loadS s with
  | error e => exact Nat.zero_le _
  | ok p =>
   have h := (load_wide (g := p.1) (ss := p.2) hl).2.1
   show p.2.length ≤ _
   omega
 refine wX ?_
 rw [show (errS (loadS s) == errS (loadS s)) = true by simp]
 refine wX ?_
 refine SpecF.call (as_m a1 c1 m1 ha1 ⟨by omega, fun p hp => by have := hwide.2 p hp; omega⟩ hk1) (fun w hw => hG1 w hw.1) fun v5 G5 hR5 => ?_
 obtain ⟨a5, c5, m5, rfl, ha5, hm5, hk5, hG5⟩ := hR5
 have hl5 : m5.length ≤ 500 := by
  have := congrArg List.length hm5
  simp only [List.length_map] at this
  omega
 refine wX ?_
 refine call1 (Alike2_c a5 a2 c5 c2 m5 m2 ha5 ha2 (by omega) hk5 hk2 true ⟨fun _ => by rw [hm5, hm1, hm2], fun _ => rfl⟩ _ (fun w hw => ⟨hG5 w hw.2.2.2.2.1, hG2 w hw.2.1⟩)) ?_
 refine wX ?_
 refine SpecF.call (MCheck_c s) (fun _ _ => trivial) fun v6 G6 hR6 => ?_
 obtain rfl := hR6
 refine wX ?_
 rw [show (errS (loadS s) == errS (loadS s)) = true by simp]
 refine wX ?_
 rw [show (errS (loadS s) == errS (loadS s)) = true by simp]
 refine wX ?_
 rw [show (errS (loadS s) == errS (loadS s)) = true by simp]
 refine wX ?_
 refine call1 (same_l a3 a4 c3 c4 (sR (loadS s)) (sR (loadS s)) ha3 ha4 hss true ⟨fun _ => rfl, fun _ => rfl⟩ _ (fun w hw => ⟨hG3 w hw.2.2.1, hG4 w hw.2.2.2.1⟩)) ?_
 exact wZ
end Go.Proofs.YtgogonnnojcioaaGreatDoor
namespace Go.Marshal
open Go.Core
structure Tiny (g : List Cell) : Prop where
 valid : ValidP g
 len : g.length ≤ 12
 cell : ∀ c ∈ g, c.items.length ≤ 4 ∧ c.names.length ≤ 2 ∧ c.text.length ≤ 2
theorem Tiny.dmp {g : List Cell} (h : Tiny g) {k : Int} (hk : InI g k) : Dmp g 60 k :=
 ⟨h.valid, fun c hc => by have := h.cell c hc; omega, hk⟩
theorem Tiny.dump_len {g : List Cell} (h : Tiny g) {k : Int} (hk : InI g k) : (dumpS g k).length ≤ 5000 ∧ 3 ≤ (dumpS g k).length := by
 have hd := h.dmp hk
 have hin := valid_in h.valid
 have h4 := write_len hin hd.cellW (by decide) (g.length + 1) ⟨headB, [], []⟩ k hk hd.few
 have h5 : wgt iN g [] ≤ g.length * 6 := wgt_le (fun i hi => by
  have := h.cell _ (at_mem hi)
  unfold iN
  omega) []
 have h6 := h.len
 have h7 : (dumpS g k).length + 60 * wgt iN g (writeF g (g.length + 1) ⟨headB, [], []⟩ k).cells ≤ 3 + 60 * wgt iN g [] + 60 := h4
 obtain ⟨b, e, hb⟩ := back_write h.valid.1 hin hd.cellW (g.length + 1) ⟨headB, [], []⟩ k hk ⟨List.nodup_nil, (fun _ h => by cases h), fun _ h => by cases h⟩ (Nat.lt_succ_of_le (free_le g [])) hd.few
 have e2 : dumpS g k = headB ++ b := e
 refine ⟨by omega, ?_⟩
 rw [e2, List.length_append]
 show 3 ≤ 3 + _
 omega
end Go.Marshal
namespace Go.Proofs.YtgogonnnojcioaaGreatDoor
open Go.AX Go.RowKit Go.Core Go.Marshal
set_option maxRecDepth 20000
theorem tmod_n {X : Int} {n : Nat} (hX : 0 ≤ X ∧ X < 18446744073709551616) (hn : 0 < n) (h500 : n ≤ 20000) : ∃ k : Nat, k < n ∧ IntKind.i64.wrap (X.tmod (IntKind.u64.wrap (n : Int))) = (k : Int) := by
 have hwl : IntKind.u64.wrap (n : Int) = (n : Int) := wrap_u64 (by omega)
 rw [hwl, Int.tmod_eq_emod_of_nonneg hX.1]
 have h1 : 0 ≤ X % (n : Int) := Int.emod_nonneg _ (by omega)
 have h2 : X % (n : Int) < n := Int.emod_lt_of_pos _ (by omega)
 exact ⟨(X % (n : Int)).toNat, by omega, by rw [wrap_i64 (by omega)]; omega⟩
theorem u64_in (u : Int) : 0 ≤ IntKind.u64.wrap u ∧ IntKind.u64.wrap u < 18446744073709551616 := by rw [wrap_u64_eq]; omega
end Go.Proofs.YtgogonnnojcioaaGreatDoor
namespace Go.Proofs.YtgogonnnojcioaaGreatDoor
open Go.AX Go.RowKit Go.Core Go.Marshal
set_option maxRecDepth 20000
set_option maxHeartbeats 4000000 in
theorem MarshalChanged_c (a : Option Addr) (ca : Nat) (L : List Int) (ha : a = none → L = []) (hl : L.length ≤ 200000000000000) (u t : Int) : ∀ H, (∀ w, Facts H w → SlAt a (L.length * 1) (iC L) w) → SpecH Tryz.prog 3 (pvs [.slice a L.length ca, .int .i64 u, .int .i64 t]) H (Ret (.bool true) H) := by
 refine factC hm Tryz.func3 (by kernel_rfl) rfl rfl ?_
 ((conv => whnf); (repeat ((first | refine VrN.keep ?_ | refine BoxN.own ?_ | refine RwN.own ?_); (conv => whnf))))
 refine SpecF.call (Grown_c a ca L ha hl) (fun w hw => hw.1) fun v G hR => ?_
 obtain ⟨oa, oc, m, rfl, hoa, hok, hs, hv, ⟨hl12, hsm⟩, hG⟩ := hR
 refine wX ?_
 by_cases hm0 : m = []
 ·subst hm0
  refine wX ?_
  refine call1 (sane_m _) ?_
  exact wZ
 have hmp : 0 < m.length := by cases m with
  | nil => exact absurd rfl hm0
  | cons _ _ => simp
 have hvm : ValidP (m.map (·.c)) := hv.resolve_left hm0
 have tiny : Tiny (m.map (·.c)) := ⟨hvm, by rw [List.length_map]; exact hl12, fun c hc => by
  obtain ⟨q, hq, rfl⟩ := List.mem_map.1 hc
  exact hsm q hq⟩
 have hkin : InI (m.map (·.c)) ((0 : Nat) : Int) := ⟨by omega, by rw [List.length_map]; omega⟩
 obtain ⟨e, he, hes⟩ := Dump_c oc hoa hs hok ((0 : Nat) : Int)
 have het : e = true := he.2 ⟨hvm, fun x hx => by obtain rfl := List.mem_singleton.1 hx; exact hkin⟩
 subst het
 obtain ⟨hdl, hd3⟩ := tiny.dump_len hkin
 rw [show (if true = true then dumpS (m.map (·.c)) ((0 : Nat) : Int) else []) = dumpS (m.map (·.c)) ((0 : Nat) : Int) from rfl] at hes
 generalize dumpS (m.map (·.c)) ((0 : Nat) : Int) = D at hes hdl hd3
 rw [show ((m.length : Int) == 0) = false by rw [beq_eq_false_iff_ne]; omega]
 refine wX ?_
 refine call1 (hes _ (fun w hw => hG w hw.2.1)) ?_
 have hsz := bs_size D
 obtain ⟨k2, hk2, hkw2⟩ := tmod_n (u64_in u) (show 0 < D.length by omega) (by omega)
 obtain ⟨c, hc⟩ : ∃ c : UInt8, IntKind.u8.wrap t = (c.toNat : Int) := by
  have h : 0 ≤ t % 256 ∧ t % 256 < 256 := by omega
  refine ⟨UInt8.ofNat (t % 256).toNat, ?_⟩
  rw [ofNat_lt (by omega)]
  have hw : IntKind.u8.wrap t = t % 256 := by simp [IntKind.wrap, IntKind.bits, IntKind.signed]
  rw [hw]
  omega
 refine wX ?_
 rw [show (((bs D).size : Int) == 0) = false by rw [beq_eq_false_iff_ne, hsz]; omega]
 refine wX ?_
 refine EffW.bytesOf (e := 5) D rfl Tryz.underlying9 Tryz.underlying29 Tryz.underlying5 rfl (by omega) fun lb lc h5 h6 => ?_
 refine wX ?_
 refine Nd.mk (by rw [wrap_u64 (by omega)]; omega) ?_
 refine wX ?_
 rw [hkw2]
 refine Nd.mk ⟨rfl, by omega, by omega⟩ ?_
 refine wX ?_
 have hset : (u8s D).set k2 (.int .u8 (IntKind.u8.wrap t)) = u8s (D.set k2 c) := by rw [hc]; simp [u8s, List.map_set]
 have hul : k2 < (u8s D).length := by simp [u8s]; omega
 refine EffW.appTo (i := 2) (q := k2) (ys := [.int .u8 (IntKind.u8.wrap t)]) (u8s (D.set k2 c)) 1 rfl (ptr_lit rfl (by rw [Int.toNat_natCast]; exact Nat.mul_one _)) rfl rfl rfl rfl rfl (by show k2 + 1 ≤ D.length * 1; omega) ((put_set _ hul).trans hset) rfl ?_
 refine wX ?_
 refine ReadW.bytes (D.set k2 c) (List.length_set ..) rfl Tryz.underlying29 Tryz.underlying5 Tryz.underlying9 rfl (fun w hw => by have h := hw.2.2.1; rw [Nat.mul_one] at h; exact h) ?_
 refine wX ?_
 refine call1 (loads_c (D.set k2 c) _) ?_
 refine wX ?_
 refine call1 (sane_m _) ?_
 exact wZ
end Go.Proofs.YtgogonnnojcioaaGreatDoor
namespace Go.Proofs.YtgogonnnojcioaaGreatDoor
open Go.ChangeShapes Go.WideShapes Go.ChangeAt Go.RowKit Go.AX Go.Core
set_option maxRecDepth 100000
namespace MarshalChanged
theorem own : ownKnob Tryz.prog.godebug = none := own0
theorem walk {H : Type} {enc : TypeId × Value → H} (W : World) (base : Nat) (args : Array Value) (ds : List (DataW H)) (p : List MemPlace) (k : Known enc Tryz.prog Tryz.f3 W base args ds p) (_hL : laidMetH Tryz.prog laid3 W) : Walk Tryz.prog 3 args W := by
 obtain ⟨u, v, z, rfl⟩ := arr3 (trodAll_len k.trod).2
 obtain ⟨i, rfl⟩ := okWide_int Tryz.underlying3 (k.val 1 _ v rfl rfl)
 obtain ⟨j, rfl⟩ := okWide_int Tryz.underlying3 (k.val 2 _ z rfl rfl)
 obtain ⟨a, l, cap, rfl, ⟨_hq, ha, hs⟩, _, _⟩ := k.low.ints (e := 3) (i := .i64) 0 rfl rfl (by kernel_rfl) (by kernel_rfl) (by kernel_rfl) (by decide +kernel)
 have nil_of : ∀ {a : Option Addr} {l : List Int}, a.isSome = true ∨ l.length = 0 → a = none → l = [] := fun {a l} h e => by
  rcases h with h | h
  ·rw [e] at h; cases h
  ·exact List.eq_nil_of_length_eq_zero h
 exact walkH [.fact (SlAt a (l.length * 1) (iC l))] (fun _ he => ⟨_, List.mem_singleton.1 he, by rw [Nat.mul_one]; exact hs⟩) (MarshalChanged_c a cap l (nil_of ha) _hq i j _ fun w hw => hw.1)
theorem lifted (os : Os) (started : os.Started) (H : Type) (enc : TypeId × Value → H) :
  ReturnsInHanded {} Tryz.checked os 3 .any (fun w args => (Rows.marshalChangedSpec.pre enc Tryz.prog Tryz.f3 [] false w args ∧ laidMetH Tryz.prog laid3 w) ∧ sizedMet enc Tryz.prog Tryz.f3 (OpenSpec.ofChange Rows.marshalChangedSpec) false w args) (Rows.marshalChangedSpec.post enc Tryz.prog Tryz.f3 false true false false) := by
 refine liftS (C := Tryz.checked) own started (by kernel_rfl) Tryz.func3
  (ChangeSpec.witness_shaped (enc := enc) (C := Tryz.checked) (os := os) (X := fun w _ => laidMetH Tryz.prog laid3 w) false (World.laidAll Tryz.prog os laid3) #[.slice none 0 0, .int .i64 0, .int .i64 0] 8 (World.laidAll_os _ _ _) (World.shaped_of_ZipB (by kernel_rfl) (by kernel_rfl)) (by kernel_rfl) (by kernel_rfl) (by kernel_rfl) (door_met os _))
  laidOut rfl (t := _) rfl (by kernel_rfl) (by kernel_rfl) ?_ walk
 intro ds hd
 match ds, hd with
 | [d0, d1, d2], _ => rfl
theorem over : Rows.marshalChangedRow.holds Tryz.pinned (OpenSpec.ofChange Rows.marshalChangedSpec) :=
 OpenClaim.holds_of_wide 3 Tryz.f3 rfl rfl rfl rfl rfl rfl rfl ⟨rfl, rfl, rfl, rfl, rfl⟩ rfl rfl rfl rfl rfl (by kernel_rfl) Tryz.func3 (by kernel_rfl)
  (of_decide_eq_true (by kernel_rfl)) (by unfold Func.isWrapper; first | (rw [if_pos (by decide +kernel)]; kernel_rfl) | (rw [if_neg (by decide +kernel)]; exact ⟨rfl, rfl⟩))
  (fun os started H enc _ => lifted os started H enc)
theorem proved : Rows.MarshalChangedCardSaid :=
 Claim7.holds_tied_plain_at .later [] [.data, .pinned] true (true, "92e2ed60dd5b2613fe6e0d172a7e2bd0782f276a49ab098c444f4227433a6c5a") false
  over (fun _ h => by cases h) (by kernel_rfl) (fun _ h => by cases h) marshalChanged_row_tie rfl ⟨rfl, rfl⟩ (by kernel_rfl) rfl
  (fun f fn hf hfn => by
   obtain rfl : f = 3 := Option.some.inj ((show Tryz.prog.funcNamed "cabochon/cabochonlaw29.MarshalChanged" = some 3 by kernel_rfl).symm.trans hf) |>.symm
   obtain rfl : fn = Tryz.f3 := (Option.some.inj (Tryz.func3.symm.trans hfn)).symm
   exact ⟨by kernel_rfl, fun j t ht => by
    have hm : t ∈ Tryz.f3.params.toList := by simpa using Array.mem_of_getElem? ht
    have hall : (Tryz.f3.params.toList.all fun u => !Tryz.prog.wantsStandIn u) = true := by kernel_rfl
    exact (show Tryz.prog.wantsStandIn t = false by simpa using List.all_eq_true.1 hall t hm)⟩)
  (by kernel_rfl)
#print axioms proved
end MarshalChanged
end Go.Proofs.YtgogonnnojcioaaGreatDoor
