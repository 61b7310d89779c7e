/-
  Lemmas (C12 C13 W1 P12 W2 P13 P14 X1 Ax51 X2 X3 P15 P18 Ax53 Z1 U1 Q1 Q2 O1 O2 K1 Q3 Q4 Q5 W3).
-/
import Derived.WideKeyRuns
import Derived.Test.YtahjbnfbilkbcaaGreatDoorChecked
import Derived.Tactics
import Derived.Tactics2
import Derived.Defers
import Derived.Laws.Pointers
import Derived.Laws.LoneSync
import Derived.RegionTactic
import Derived.RegionCalls
import Derived.ChangeAlike
import Derived.Test.YtahjbnfbilkbcaaGreatDoorEqv7
/-
  Contract: Check (program).
-/
namespace Go.Core
theorem any_range (n : Nat) (c : Cell) : (c.items.any fun i => decide (i < 0) || decide (i ≥ (n : Int))) = !rangeB n c := by
  unfold rangeB
  rw [List.all_eq_not_any_not, Bool.not_not]
  exact congrArg (fun f => c.items.any f) (funext fun i => by rw [Bool.eq_iff_iff]; simp)
end Go.Core
namespace Go.Proofs.YtahjbnfbilkbcaaGreatDoor
open Go.AX Go.RowKit Go.Core Go.Scan
set_option maxRecDepth 20000

theorem plain_c (p : CellP) (hp : CellOk p) (hs : p.c.names.length ≤ 2000 ∧ p.c.items.length ≤ 2000) : ∀ H, (∀ w, Facts H w → CellF p w) → SpecH Tryz.prog 45 (pvs [cellV p]) H (Ret (.bool (Go.Core.plainS p.c)) H) := by
  obtain ⟨⟨kind, num, text, names, items⟩, na, nc, ia, ic⟩ := p
  exact plain_c0 kind num text names items na nc ia ic hp.na hp.ia hs.1 hs.2 hp.nw hp.tl
theorem out_c (x : Int) (b : Nat) (a : Option Addr) (n c : Nat) : ∀ H, (∀ w, Facts H w → SlAt (some ⟨b, 0, none⟩) 1 [.slice a n c] w) → SpecH Tryz.prog 47 (pvs [.int .i64 x, .pointer (some ⟨b, 0, none⟩)]) H (Ret (.bool (decide (x < 0) || decide (x ≥ (n : Int)))) H) := by
  refine factC hm Tryz.func47 (by kernel_rfl) rfl rfl ?_
  (first | refine wX ?_ | exact wZ)
  refine brd_dec (fun h1 => ?_) (fun h1 => ?_)
  · (first | refine wX ?_ | exact wZ)
    exact out_bool (by simp [h1])
  · (first | refine wX ?_ | exact wZ)
    refine LdN.one (a := some ⟨b, 0, none⟩) (q := 0) (.slice a n c) rfl (fun w hw => hw.1) rfl ?_
    (first | refine wX ?_ | exact wZ)
    exact out_bool (by simp [h1])
def errI (b : Bool) : Value := .int .i64 (if b then 0 else 1)
set_option maxHeartbeats 4000000 in
theorem Check_c (a : Option Addr) (ca : Nat) (l : List CellP) (ha : a = none → l = []) (hs : Small l) (hok : ∀ p ∈ l, CellOk p) :
    ∀ H, (∀ w, Facts H w → GrF a l w) → ∃ b : Bool, (b = true ↔ ValidP (l.map (·.c))) ∧ SpecH Tryz.prog 18 (pvs [.slice a l.length ca]) H (Ret (errI b) H) := by
  intro H hH
  obtain ⟨b, hb⟩ : ∃ b : Bool, b = true ↔ ValidP (l.map (·.c)) := by
    by_cases h : ValidP (l.map (·.c))
    · exact ⟨true, fun _ => h, fun _ => rfl⟩
    · exact ⟨false, (fun h => by cases h), fun h2 => absurd h2 h⟩
  refine ⟨b, hb, ?_⟩
  obtain ⟨hl, hsm⟩ := hs
  have hml : (l.map (·.c)).length = l.length := by simp
  have hno : ¬ ValidP (l.map (·.c)) → (1 : Int) = if b then 0 else 1 := fun h => by
    cases b with
    | false => rfl
    | true => exact absurd (hb.1 rfl) h
  refine factC hm Tryz.func18 (by kernel_rfl) rfl rfl ?_ H hH
  (first | refine wXB ?_ | exact wZB)
  refine BoxN.known [.slice a l.length ca] rfl fun gb => ?_
  (first | refine wXB ?_ | exact wZB)
  -- the graph, out of its box
  refine LdN.one (a := some ⟨gb, 0, none⟩) (q := 0) (.slice a l.length ca) rfl (fun w hw => hw.2.1) rfl ?_
  (first | refine wXB ?_ | exact wZB)
  refine brd_dec (fun h0 => ?_) (fun h0 => ?_)
  · (first | refine wXB ?_ | exact wZB)
    exact out_int (hno fun h => by have := h.1; omega)
  (first | refine wXB ?_ | exact wZB)
  -- the graph, out of its box
  refine LdN.one (a := some ⟨gb, 0, none⟩) (q := 0) (.slice a l.length ca) rfl (fun w hw => hw.2.1) rfl ?_
  (first | refine wXB ?_ | exact wZB)
  refine loopS Nat (fun i => i ≤ l.length ∧ ∀ p ∈ l.take i, cellD l.length p.c = true) (fun i => mkS Tryz.f18.ntmps 0 [(1, .c (.v (.pointer (some ⟨gb, 0, none⟩)))), (10, .c (.v (.slice a l.length ca))), (11, .c (.v (.int .i64 (l.length : Int)))), (12, .c (.v (.int .i64 (i : Int))))]) (fun i => l.length - i) rfl (fun _ => rfl) 0 ⟨Nat.zero_le _, by simp⟩ ?_ ?_
  · (repeat' (first | exact trivial | refine And.intro (by with_reducible rfl) ?_ | (with_reducible exact wkC_refl _) | (with_reducible exact wkCs_refl _) | refine And.intro ?_ ?_))
    all_goals rfl
  intro i ⟨hi, hc⟩
  (first | refine wXB ?_ | exact wZB)
  refine brd_dec (fun h1 => ?_) (fun h1 => ?_)
  · obtain ⟨p, hp⟩ : ∃ p, l[i]? = some p := ⟨_, List.getElem?_eq_getElem (by omega)⟩
    have hpm := List.mem_of_getElem? hp
    have hpo := hok p hpm
    have hsa : a.isSome = true := by
      cases a with
      | none => rw [ha rfl] at hp; cases hp
      | some b => rfl
    have hbad : (Go.Core.plainS p.c && rangeB l.length p.c) = false → ¬ ValidP (l.map (·.c)) := fun h hv => by
      have := hv.2.1 p.c (List.mem_map.2 ⟨p, hpm, rfl⟩)
      rw [hml, ← cell_eq, h] at this
      cases this
    (first | refine wXB ?_ | exact wZB)
    refine Nd.mk ⟨hsa, by omega, by omega⟩ ?_
    (first | refine wXB ?_ | exact wZB)
    refine LdN.agg (cellC p) rfl (fun w hw => hw.1.1) rfl (fun k hk => by rw [Int.toNat_natCast]; exact grC_get l i k hk hp) ?_
    (first | refine wXB ?_ | exact wZB)
    refine BoxN.known [.int .i64 0, .int .i64 0, .string { data := #[] }, .slice none 0 0, .slice none 0 0] rfl fun cb => ?_
    (first | refine wXB ?_ | exact wZB)
    refine EffW.appTo (i := 2) (q := 0) (ys := cellC p) (cellC p) 5 rfl rfl rfl rfl rfl rfl rfl (Nat.le_of_ble_eq_true rfl) rfl rfl ?_
    (first | refine wXB ?_ | exact wZB)
    refine LdN.agg (a := some ⟨cb, 0, none⟩) (q := 0) (cellC p) rfl (fun w hw => hw.2.2.1) rfl (fun k hk => by rw [Nat.zero_add]) ?_
    (first | refine wXB ?_ | exact wZB)
    refine call1 (plain_c p hpo (hsm p hpm) _ (fun w hw => hw.1.2 p hpm)) ?_
    cases hpl : Go.Core.plainS p.c with
    | false =>
      (first | refine wXB ?_ | exact wZB)
      exact out_int (hno (hbad (by rw [hpl]; rfl)))
    | true =>
    (first | refine wXB ?_ | exact wZB)
    refine LdN.one (a := some ⟨cb, 0, none⟩) (q := 4) (.slice p.ia p.c.items.length p.ic) rfl (fun w hw => hw.2.2.1) rfl ?_
    (first | refine wXB ?_ | exact wZB)
    refine SpecH.args (args' := pvs [.slice p.ia p.c.items.length p.ic, .func (.func 47) #[] #[.pointer (some ⟨gb, 0, none⟩)]]) (by simp [pvs, opvs, opv, nth, plainEv]; try rfl) ?_
    refine call1 (HasI_c (fun x => decide (x < 0) || decide (x ≥ (l.length : Int))) 47 #[.pointer (some ⟨gb, 0, none⟩)] (SlAt (some ⟨gb, 0, none⟩) 1 [.slice a l.length ca]) p.ia p.ic p.c.items (fun x _ H hH => out_c x gb a l.length ca H hH) hpo.ia hpo.il _ (fun w hw => ⟨(hw.1.2 p hpm).2, hw.2.1⟩)) ?_
    rw [any_range]
    cases hrg : rangeB l.length p.c with
    | false =>
      (first | refine wXB ?_ | exact wZB)
      exact out_int (hno (hbad (by rw [hpl, hrg]; rfl)))
    | true =>
    (first | refine wXB ?_ | exact wZB)
    refine ⟨i + 1, ⟨by omega, all_step hc hp (by rw [← cell_eq, hpl, hrg]; rfl)⟩, by omega, ?_, by (repeat' (first | exact trivial | exact wkE_refl _ | refine And.intro ?_ ?_))⟩
    (repeat' (first | exact trivial | refine And.intro (by with_reducible rfl) ?_ | (with_reducible exact wkC_refl _) | (with_reducible exact wkCs_refl _) | refine And.intro ?_ ?_))
    all_goals first | rfl | exact av_int (by rw [wrap_i64 (by omega)]; omega)
  have hil : i = l.length := by omega
  subst hil
  rw [List.take_length] at hc
  clear h1
  (first | refine wXB ?_ | exact wZB)
  -- the graph, out of its box
  refine LdN.one (a := some ⟨gb, 0, none⟩) (q := 0) (.slice a l.length ca) rfl (fun w hw => hw.2.1) rfl ?_
  (first | refine wXB ?_ | exact wZB)
  refine loopS Nat (fun i => i ≤ l.length ∧ ∀ p ∈ l.take i, p.c.kind = 7 → ¬ Twice (l.map (·.c)) p.c.items) (fun i => mkS Tryz.f18.ntmps 0 [(1, .c (.v (.pointer (some ⟨gb, 0, none⟩)))), (26, .c (.v (.slice a l.length ca))), (27, .c (.v (.int .i64 (l.length : Int)))), (28, .c (.v (.int .i64 (i : Int))))]) (fun i => l.length - i) rfl (fun _ => rfl) 0 ⟨Nat.zero_le _, by simp⟩ ?_ ?_
  · (repeat' (first | exact trivial | refine And.intro (by with_reducible rfl) ?_ | (with_reducible exact wkC_refl _) | (with_reducible exact wkCs_refl _) | refine And.intro ?_ ?_))
    all_goals rfl
  intro i ⟨hi, ht⟩
  (first | refine wXB ?_ | exact wZB)
  refine brd_dec (fun h1 => ?_) (fun h1 => ?_)
  · obtain ⟨p, hp⟩ : ∃ p, l[i]? = some p := ⟨_, List.getElem?_eq_getElem (by omega)⟩
    have hpm := List.mem_of_getElem? hp
    have hpo := hok p hpm
    have hsa : a.isSome = true := by
      cases a with
      | none => rw [ha rfl] at hp; cases hp
      | some b => rfl
    (first | refine wXB ?_ | exact wZB)
    refine Nd.mk ⟨hsa, by omega, by omega⟩ ?_
    (first | refine wXB ?_ | exact wZB)
    refine LdN.agg (cellC p) rfl (fun w hw => hw.1.1) rfl (fun k hk => by rw [Int.toNat_natCast]; exact grC_get l i k hk hp) ?_
    (first | refine wXB ?_ | exact wZB)
    refine BoxN.known [.int .i64 0, .int .i64 0, .string { data := #[] }, .slice none 0 0, .slice none 0 0] rfl fun cb => ?_
    (first | refine wXB ?_ | exact wZB)
    refine EffW.appTo (i := 2) (q := 0) (ys := cellC p) (cellC p) 5 rfl rfl rfl rfl rfl rfl rfl (Nat.le_of_ble_eq_true rfl) rfl rfl ?_
    (first | refine wXB ?_ | exact wZB)
    refine LdN.one (a := some ⟨cb, 0, none⟩) (q := 0) (.int .i64 p.c.kind) rfl (fun w hw => hw.2.2.1) rfl ?_
    (first | refine wXB ?_ | exact wZB)
    refine brd_eq (fun h7 => ?_) (fun h7 => ?_)
    · (first | refine wXB ?_ | exact wZB)
      -- the graph, out of its box
      refine LdN.one (a := some ⟨gb, 0, none⟩) (q := 0) (.slice a l.length ca) rfl (fun w hw => hw.2.1) rfl ?_
      (first | refine wXB ?_ | exact wZB)
      refine LdN.agg (a := some ⟨cb, 0, none⟩) (q := 0) (cellC p) rfl (fun w hw => hw.2.2.1) rfl (fun k hk => by rw [Nat.zero_add]) ?_
      (first | refine wXB ?_ | exact wZB)
      obtain ⟨t, ht1, ht2⟩ := twice_c a ca l p ha (by omega) hpo (cellD_in (hc p hpm)) [.fact (GrF a l), .app 22 1 [.slice a l.length ca] (some ⟨gb, 0, none⟩) 1 1, .app 42 5 (cellC p) (some ⟨cb, 0, none⟩) 1 1] (fun w hw => ⟨hw.1, hw.1.2 p hpm⟩)
      refine call1 ht2 ?_
      cases ht3 : t with
      | true =>
        (first | refine wXB ?_ | exact wZB)
        exact out_int (hno fun h => h.2.2 p.c (List.mem_map.2 ⟨p, hpm, rfl⟩) h7 (ht1.1 ht3))
      | false =>
      (first | refine wXB ?_ | exact wZB)
      refine ⟨i + 1, ⟨by omega, all_step ht hp (fun _ h => by rw [ht1.2 h] at ht3; cases ht3)⟩, by omega, ?_, by (repeat' (first | exact trivial | exact wkE_refl _ | refine And.intro ?_ ?_))⟩
      (repeat' (first | exact trivial | refine And.intro (by with_reducible rfl) ?_ | (with_reducible exact wkC_refl _) | (with_reducible exact wkCs_refl _) | refine And.intro ?_ ?_))
      all_goals first | rfl | exact av_int (by rw [wrap_i64 (by omega)]; omega)
    · (first | refine wXB ?_ | exact wZB)
      refine ⟨i + 1, ⟨by omega, all_step ht hp (fun h => absurd h h7)⟩, by omega, ?_, by (repeat' (first | exact trivial | exact wkE_refl _ | refine And.intro ?_ ?_))⟩
      (repeat' (first | exact trivial | refine And.intro (by with_reducible rfl) ?_ | (with_reducible exact wkC_refl _) | (with_reducible exact wkCs_refl _) | refine And.intro ?_ ?_))
      all_goals first | rfl | exact av_int (by rw [wrap_i64 (by omega)]; omega)
  · have hil : i = l.length := by omega
    subst hil
    rw [List.take_length] at ht
    (first | refine wXB ?_ | exact wZB)
    have hbt : b = true := hb.2 ⟨by omega, fun c hcm => by
        obtain ⟨p, hp, rfl⟩ := List.mem_map.1 hcm
        rw [hml]
        exact hc p hp, fun c hcm => by
        obtain ⟨p, hp, rfl⟩ := List.mem_map.1 hcm
        exact ht p hp⟩
    exact out_int (by rw [hbt]; rfl)
end Go.Proofs.YtahjbnfbilkbcaaGreatDoor

/-
  Contract: asked (program).
-/
namespace Go.Core
/-- A graph is valid, and has these cells. -/
def AskP (g : List Cell) (cs : List Int) : Prop := ValidP g ∧ ∀ x ∈ cs, 0 ≤ x ∧ x < (g.length : Int)
end Go.Core
namespace Go.Proofs.YtahjbnfbilkbcaaGreatDoor
open Go.AX Go.RowKit Go.Core Go.Scan
set_option maxRecDepth 20000

theorem out2_c (x : Int) (b : Nat) (a : Option Addr) (n c : Nat) : ∀ H, (∀ w, Facts H w → SlAt (some ⟨b, 0, none⟩) 1 [.slice a n c] w) → SpecH Tryz.prog 93 (pvs [.int .i64 x, .pointer (some ⟨b, 0, none⟩)]) H (Ret (.bool (decide (x < 0) || decide (x ≥ (n : Int)))) H) := by
  refine factC hm Tryz.func93 (by kernel_rfl) rfl rfl ?_
  (first | refine wX ?_ | exact wZ)
  refine brd_dec (fun h1 => ?_) (fun h1 => ?_)
  · (first | refine wX ?_ | exact wZ)
    exact out_bool (by simp [h1])
  · (first | refine wX ?_ | exact wZ)
    refine LdN.one (a := some ⟨b, 0, none⟩) (q := 0) (.slice a n c) rfl (fun w hw => hw.1) rfl ?_
    (first | refine wX ?_ | exact wZ)
    exact out_bool (by simp [h1])
set_option maxHeartbeats 1000000 in
theorem asked_c (a : Option Addr) (ca : Nat) (l : List CellP) (ha : a = none → l = []) (hs : Small l) (hok : ∀ p ∈ l, CellOk p) (sa : Option Addr) (sc : Nat) (cs : List Int) (hsa : sa = none → cs = []) (hcl : cs.length ≤ 2000) :
    ∀ H, (∀ w, Facts H w → GrF a l w ∧ SlAt sa (cs.length * 1) (iC cs) w) → ∃ b : Bool, (b = true ↔ AskP (l.map (·.c)) cs) ∧ SpecH Tryz.prog 50 (pvs [.slice a l.length ca, .slice sa cs.length sc]) H (Ret (errI b) H) := by
  intro H hH
  obtain ⟨b, hb⟩ : ∃ b : Bool, b = true ↔ AskP (l.map (·.c)) cs := by
    by_cases h : AskP (l.map (·.c)) cs
    · exact ⟨true, fun _ => h, fun _ => rfl⟩
    · exact ⟨false, (fun h => by cases h), fun h2 => absurd h2 h⟩
  refine ⟨b, hb, ?_⟩
  refine factC hm Tryz.func50 (by kernel_rfl) rfl rfl ?_ H hH
  (first | refine wXB ?_ | exact wZB)
  refine BoxN.known [.slice a l.length ca] rfl fun gb => ?_
  (first | refine wXB ?_ | exact wZB)
  refine SpecH.args (args' := pvs [.slice sa cs.length sc, .func (.func 93) #[] #[.pointer (some ⟨gb, 0, none⟩)]]) (by simp [pvs, opvs, opv, nth, plainEv]; try rfl) ?_
  refine call1 (HasI_c (fun x => decide (x < 0) || decide (x ≥ (l.length : Int))) 93 #[.pointer (some ⟨gb, 0, none⟩)] (SlAt (some ⟨gb, 0, none⟩) 1 [.slice a l.length ca]) sa sc cs (fun x _ H hH => out2_c x gb a l.length ca H hH) hsa (by omega) _ (fun w hw => ⟨hw.1.2, hw.2.1⟩)) ?_
  cases hany : cs.any fun x => decide (x < 0) || decide (x ≥ (l.length : Int)) with
  | true =>
    (first | refine wXB ?_ | exact wZB)
    obtain ⟨x, hx, hx2⟩ := List.any_eq_true.1 hany
    refine out_int ?_
    cases b with
    | false => rfl
    | true =>
      have h1 := (hb.1 rfl).2 x hx
      simp at hx2 h1
      omega
  | false =>
    (first | refine wXB ?_ | exact wZB)
    refine LdN.one (a := some ⟨gb, 0, none⟩) (q := 0) (.slice a l.length ca) rfl (fun w hw => hw.2.1) rfl ?_
    (first | refine wXB ?_ | exact wZB)
    obtain ⟨t, ht1, ht2⟩ := Check_c a ca l ha hs hok [.fact (fun w => GrF a l w ∧ SlAt sa (cs.length * 1) (iC cs) w), .app 22 1 [.slice a l.length ca] (some ⟨gb, 0, none⟩) 1 1] (fun w hw => hw.1.1)
    have hbt : b = t := by
      rw [Bool.eq_iff_iff, hb, ht1]
      refine ⟨fun h => h.1, fun h => ⟨h, fun x hx => ?_⟩⟩
      have := List.any_eq_false.1 hany x hx
      simp at this ⊢
      omega
    refine call1 ht2 ?_
    rw [hbt]
    (first | refine wXB ?_ | exact wZB)
    rfl
end Go.Proofs.YtahjbnfbilkbcaaGreatDoor

/-
  Contracts: the strings.Builder within a writer of one's own.
-/
namespace Go.Proofs.YtahjbnfbilkbcaaGreatDoor
open Go.AX Go.RowKit Go.Core
set_option maxRecDepth 20000

/-- What the Builder's first cell holds: nothing, or its own address, within the writer. -/
def bC1 (u : Bool) : CV := match u with | true => .lp 0 1 | false => .v (.pointer none)
def wH (gv : Value) (F : World → Prop) (u : Bool) (out : List UInt8) (i : BSt) (way : List Int) (j : BSt) : List Ent :=
  [.blk 88 [.v gv, bC1 u, .v (.slice (at0 i.ob) out.length i.cap), .v (.slice (at0 j.ob) way.length j.cap)], .app 5 1 (u8s out) (at0 i.ob) out.length i.cap, .app 3 1 (iC way) (at0 j.ob) way.length j.cap, .fact F]
theorem wH_ok (gv : Value) (F : World → Prop) (u : Bool) (out : List UInt8) (i : BSt) (way : List Int) (j : BSt) : okH (wH gv F u out i way j).length (wH gv F u out i way j) := by cases u <;> exact okHB_eq rfl
variable (gv : Value) (F : World → Prop) (way : List Int) (j : BSt)

theorem copyCheck_w (u : Bool) (out : List UInt8) (i : BSt) : SpecH Tryz.prog 116 [.c (.lp 0 1)] (wH gv F u out i way j) (RetG (ι := Unit) (fun _ => True) (fun _ => .tuple #[]) fun _ => wH gv F true out i way j) := by
  refine ownC hm Tryz.func116 (by kernel_rfl) rfl rfl (fun _ _ => wH_ok _ _ _ _ _ _ _) (fun _ _ => Nat.le_refl _) ?_
  cases u with
  | false =>
    (first | refine wX ?_ | exact wZ)
    refine ReadW.toUnsafe 86 rfl (by kernel_rfl) (by kernel_rfl) (by kernel_rfl) rfl rfl (Nat.succ_lt_succ (Nat.zero_lt_succ _)) ?_
    (first | refine wX ?_ | exact wZ)
    refine EffW.ext (e := Extern.AbiNoEscape.same) rfl Tryz.func130 (by kernel_rfl) (by kernel_rfl) (by kernel_rfl) (by kernel_rfl) (.c (.lp 0 1)) ?_ ?_
    · (first | refine wX ?_ | exact wZ)
      refine ReadW.fromUnsafe 86 rfl (by kernel_rfl) (by kernel_rfl) (by kernel_rfl) rfl rfl (by show liesAt _ _ _ (4 / _) _ _ _ = true; kernel_rfl) ?_
      (first | refine wX ?_ | exact wZ)
      exact ⟨(), trivial, rfl, wkH_refl _⟩
    · intro ρ vs hr
      match vs, hr with
      | [v], hr => exact ⟨v, hr.1, fun w => rfl⟩
      | [], hr => exact hr.elim
      | _ :: _ :: _, hr => exact hr.2.elim
  | true =>
    (first | refine wX ?_ | exact wZ)
    refine ReadW.lp_nil rfl (by kernel_rfl) rfl rfl false (.inl ⟨rfl, rfl⟩) ?_
    (first | refine wX ?_ | exact wZ)
    refine ReadW.lp_same rfl (by kernel_rfl) rfl rfl false (.inr ⟨rfl, rfl⟩) ?_
    (first | refine wX ?_ | exact wZ)
    exact ⟨(), trivial, rfl, wkH_refl _⟩
theorem WriteString_w (u : Bool) (l x : List UInt8) (i0 : BSt) (ok : i0.ok l.length) (room : l.length + x.length ≤ 140737488355328) : SpecH Tryz.prog 95 [.c (.lp 0 1), .c (.v (.string (bs x)))] (wH gv F u l i0 way j)
    (RetG (ι := BSt) (fun i => i.ok (l ++ x).length) (fun _ => .tuple #[.int .i64 x.length, .nilIface]) fun i => wH gv F true (l ++ x) i way j) := by
  refine ownC hm Tryz.func95 (by kernel_rfl) rfl rfl (fun _ _ => wH_ok _ _ _ _ _ _ _) (fun _ _ => Nat.le_refl _) ?_
  cases u with
  | false =>
    (first | refine wX ?_ | exact wZ)
    refine callG (copyCheck_w gv F way j false l i0) [0, 1, 2, 3] rfl ⟨rfl, rfl, rfl, rfl, trivial⟩ rfl fun _ _ => ?_
    (first | refine wX ?_ | exact wZ)
    refine EffW.appStr 1 rfl rfl rfl (by kernel_rfl) (by kernel_rfl) (by kernel_rfl) rfl rfl rfl (by rw [bs_size]; exact room) fun ob' cap' h1 h2 h3 => ?_
    rw [bs_size, bs_list] at *
    (first | refine wX ?_ | exact wZ)
    refine ⟨⟨ob', cap'⟩, ⟨by simpa using h1, by simpa using h2, fun h => ?_⟩, by rw [bs_size], ?_⟩
    · obtain ⟨h4, h5⟩ := h3 h
      have := ok.2.2 h4
      rw [this] at h5
      cases ob' with
      | none => rfl
      | some _ => cases h5
    · exact wkH_of_eq (by simp [wH, u8s, bC1, rnC, rnCs, rnI, rnE])
  | true =>
    (first | refine wX ?_ | exact wZ)
    refine callG (copyCheck_w gv F way j true l i0) [0, 1, 2, 3] rfl ⟨rfl, rfl, rfl, rfl, trivial⟩ rfl fun _ _ => ?_
    (first | refine wX ?_ | exact wZ)
    refine EffW.appStr 1 rfl rfl rfl (by kernel_rfl) (by kernel_rfl) (by kernel_rfl) rfl rfl rfl (by rw [bs_size]; exact room) fun ob' cap' h1 h2 h3 => ?_
    rw [bs_size, bs_list] at *
    (first | refine wX ?_ | exact wZ)
    refine ⟨⟨ob', cap'⟩, ⟨by simpa using h1, by simpa using h2, fun h => ?_⟩, by rw [bs_size], ?_⟩
    · obtain ⟨h4, h5⟩ := h3 h
      have := ok.2.2 h4
      rw [this] at h5
      cases ob' with
      | none => rfl
      | some _ => cases h5
    · exact wkH_of_eq (by simp [wH, u8s, bC1, rnC, rnCs, rnI, rnE])
theorem Len_w (u : Bool) (l : List UInt8) (i0 : BSt) : SpecH Tryz.prog 94 [.c (.lp 0 1)] (wH gv F u l i0 way j) (RetG (ι := Unit) (fun _ => True) (fun _ => .int .i64 l.length) fun _ => wH gv F u l i0 way j) := by
  refine ownC hm Tryz.func94 (by kernel_rfl) rfl rfl (fun _ _ => wH_ok _ _ _ _ _ _ _) (fun _ _ => Nat.le_refl _) ?_
  (first | refine wX ?_ | exact wZ)
  exact ⟨(), trivial, rfl, wkH_refl _⟩
theorem String_w (u : Bool) (l : List UInt8) (i0 : BSt) (ok : i0.ok l.length) : SpecH Tryz.prog 52 [.c (.lp 0 1)] (wH gv F u l i0 way j)
    (RetG (ι := Unit) (fun _ => True) (fun _ => .string (bs l)) fun _ => [.dead, .dead, .dead, .fact F]) := by
  refine ownC hm Tryz.func52 (by kernel_rfl) rfl rfl (fun _ _ => ⟨trivial, trivial, trivial, trivial, trivial⟩) (fun _ _ => Nat.le_refl _) ?_
  (first | refine wX ?_ | exact wZ)
  refine DrawN.plan [0, 5] [(1, 1), (2, 1), (3, 1), (4, 1), (6, 1), (7, 1), (8, 1), (9, 1)] [(10, 0), (11, 0)] (by decide +kernel) ?_
  (first | refine wX ?_ | exact wZ)
  refine ReadW.sliceData rfl rfl rfl (fun h h2 => h (ok.2.2 h2)) ?_
  (first | refine wX ?_ | exact wZ)
  refine EffW.usStr 1 l rfl rfl rfl rfl (by kernel_rfl) (by kernel_rfl) rfl rfl rfl ?_
  (first | refine wX ?_ | exact wZ)
  exact ⟨(), trivial, rfl, trivial, trivial, trivial, fun _ h => h, trivial⟩
end Go.Proofs.YtahjbnfbilkbcaaGreatDoor

/-
  Plain: how long texts of cells become.
-/
namespace Go.Core

/-- What bounds a graph's texts. -/
structure Short (leafT : Cell → List UInt8) (g : List Cell) : Prop where
  leaf : ∀ a, isLeaf (at_ g a) = true → (leafT (at_ g a)).length ≤ 10000
  text : ∀ a, (at_ g a).kind = 8 → (at_ g a).text.length ≤ 2000
  names : ∀ a, ∀ s ∈ (at_ g a).names, s.length ≤ 40
  items : ∀ a, (at_ g a).items.length ≤ 2000
section
variable {M : Nat} {leafT : Cell → List UInt8} {g : List Cell}
theorem name_le (h : Short leafT g) (a : Int) (i : Nat) : ((at_ g a).names.getD i []).length ≤ 40 := by
  rw [List.getD_eq_getElem?_getD]
  cases hi : (at_ g a).names[i]? with
  | none => simp
  | some s => exact h.names a s (List.mem_of_getElem? hi)
theorem front_le (h : Short leafT g) (a : Int) : (frontT (at_ g a)).length ≤ 2002 := by
  unfold frontT
  split
  · simp
  split
  · have := h.text a (by assumption); simp; omega
  · simp
theorem back_le (c : Cell) : (backT c).length = 1 := by unfold backT; split <;> (try split) <;> rfl
theorem mark_le (c : Cell) : (markT c).length ≤ 4 := by unfold markT; split <;> simp
theorem pre_le (h : Short leafT g) (a : Int) (i : Nat) : (preT (at_ g a) i).length ≤ 50 := by
  have := name_le h a i
  unfold preT
  split
  · split <;> simp only [List.length_append, List.length_cons, List.length_nil] <;> omega
  split
  · simp
  split <;> simp
theorem foldT_len {f : List UInt8 → Int → List UInt8} {pre : Nat → List UInt8} {p X : Nat} (hp : ∀ i, (pre i).length ≤ p) (hX : M ≤ X) (h1 : ∀ o k, M < o.length → f o k = o) (h2 : ∀ o k, o.length ≤ M → (f o k).length ≤ X) :
    ∀ (l : List Int) (i : Nat) (out : List UInt8) (B : Nat), X ≤ B → out.length ≤ B → (foldT f pre i l out).length ≤ B + l.length * p
  | [], _, out, B, _, hb => by unfold foldT; simpa using hb
  | k :: l, i, out, B, hB, hb => by
    have hpi := hp i
    unfold foldT
    have h3 : (f (out ++ pre i) k).length ≤ B + p := by
      rcases Nat.lt_or_ge M (out ++ pre i).length with h | h
      · rw [h1 _ _ h, List.length_append]; omega
      · have := h2 _ k h; omega
    have := foldT_len hp hX h1 h2 l (i + 1) _ (B + p) (by omega) h3
    rw [List.length_cons, Nat.add_mul]
    omega
theorem write_same (n : Nat) (out : List UInt8) (way : List Int) (a : Int) (h : M < out.length) : writeS M leafT g n out way a = out := by
  cases n with
  | zero => rfl
  | succ n => unfold writeS; rw [if_pos h]
theorem write_len (h : Short leafT g) : ∀ (n : Nat) (out : List UInt8) (way : List Int) (a : Int), (writeS M leafT g n out way a).length ≤ max out.length M + n * 200000
  | 0, out, way, a => by unfold writeS; omega
  | n + 1, out, way, a => by
    have hf := front_le h a
    have hb := back_le (at_ g a)
    have hm := mark_le (at_ g a)
    have hi := h.items a
    unfold writeS
    split
    · omega
    split
    · rename_i hl
      have := h.leaf a hl
      rw [List.length_append]; omega
    split
    · simp only [List.length_append]; omega
    · rw [List.length_append]
      have := foldT_len (M := M) (f := fun o k => writeS M leafT g n o (way ++ [a]) k) (pre := preT (at_ g a)) (p := 50) (X := M + n * 200000) (pre_le h a) (by omega) (fun o k ho => write_same n o _ k ho) (fun o k ho => by have := write_len h n o (way ++ [a]) k; omega) (at_ g a).items 0 (out ++ frontT (at_ g a)) (max (out.length + 2002) M + n * 200000) (by omega) (by rw [List.length_append]; omega)
      omega
end
end Go.Core

/-
  What a writer knows of its graph; slices.Contains at numbers.
-/
namespace Go.Core
theorem foldT_snoc {f : List UInt8 → Int → List UInt8} {pre : Nat → List UInt8} : ∀ (l : List Int) (i : Nat) (o : List UInt8) (x : Int), foldT f pre i (l ++ [x]) o = f (foldT f pre i l o ++ pre (i + l.length)) x
  | [], i, o, x => by simp [foldT]
  | y :: l, i, o, x => by
    rw [List.cons_append]
    unfold foldT
    rw [foldT_snoc l (i + 1), List.length_cons]
    rw [show i + 1 + l.length = i + (l.length + 1) by omega]
theorem foldT_take {f : List UInt8 → Int → List UInt8} {pre : Nat → List UInt8} {l : List Int} {k : Nat} {x : Int} (h : l[k]? = some x) (o : List UInt8) : foldT f pre 0 (l.take (k + 1)) o = f (foldT f pre 0 (l.take k) o ++ pre k) x := by
  have hk := (List.getElem?_eq_some_iff.1 h).1
  rw [List.take_add_one, h]
  show foldT f pre 0 (l.take k ++ [x]) o = _
  rw [foldT_snoc, List.length_take, Nat.zero_add, Nat.min_eq_left (by omega)]
theorem writeS_in {M : Nat} {leafT : Cell → List UInt8} {g : List Cell} {n : Nat} {out : List UInt8} {way : List Int} {u : Int} {c : Cell} (h : ¬ M < out.length) (hc : at_ g u = c) (hl : ¬ isLeaf c = true) : writeS M leafT g (n + 1) out way u = if u ∈ way then out ++ frontT c ++ markT c ++ backT c else
    foldT (fun o k => writeS M leafT g n o (way ++ [u]) k) (preT c) 0 c.items (out ++ frontT c) ++ backT c := by
  subst hc
  conv => lhs; unfold writeS
  rw [if_neg h, if_neg hl]
theorem preT_6 {c : Cell} (h : c.kind = 6) (k : Nat) : preT c k = if 0 < k then [44, 32] else [] := by
  unfold preT
  rw [if_neg (by omega), if_neg (by omega)]
theorem preT_7 {c : Cell} (h : c.kind = 7) (k : Nat) : preT c k = if k % 2 = 1 then [32, 61, 62, 32] else if 0 < k then [44, 32] else [] := by
  unfold preT
  rw [if_neg (by omega)]
  by_cases h2 : k % 2 = 1
  · rw [if_pos ⟨h, h2⟩, if_pos h2]
  · rw [if_neg (fun e => h2 e.2), if_neg h2]
theorem preT_8 {c : Cell} (h : c.kind = 8) (k : Nat) : preT c k = (if k = 0 then [32] else [44, 32]) ++ c.names.getD k [] ++ [61] := by
  unfold preT
  rw [if_pos h]
theorem way_le {n : Nat} {way : List Int} (hn : way.Nodup) (hr : ∀ x ∈ way, 0 ≤ x ∧ x < (n : Int)) : way.length ≤ n := by
  have h1 : (way.map Int.toNat).Nodup := (List.pairwise_map.2 (hn.imp_of_mem fun {a b} ha hb hab => by
    have := hr a ha
    have := hr b hb
    omega))
  have := Go.AX.nodup_len (b := List.range n) h1 fun x hx => by
    obtain ⟨y, hy, rfl⟩ := List.mem_map.1 hx
    have := hr y hy
    exact List.mem_range.2 (by omega)
  simpa using this
def leafS (qt : List UInt8 → List UInt8) (it : Int → List UInt8) (c : Cell) : List UInt8 :=
  if c.kind = 0 then [110, 105, 108] else if c.kind = 1 then [116, 114, 117, 101] else if c.kind = 2 then [102, 97, 108, 115, 101] else if c.kind = 3 then it c.num else if c.kind = 4 then [34] ++ qt c.text ++ [34] else [58] ++ c.text
theorem at_cases (g : List Cell) (a : Int) : at_ g a ∈ g ∨ at_ g a = nilC := by
  unfold at_
  rw [List.getD_eq_getElem?_getD]
  cases h : g[a.toNat]? with
  | none => exact .inr rfl
  | some c => exact .inl (List.mem_of_getElem? h)
theorem cellD_kind {n : Nat} {c : Cell} (h : cellD n c = true) : 0 ≤ c.kind ∧ c.kind ≤ 8 := by
  unfold cellD at h
  simp only [Bool.and_eq_true, Bool.not_eq_true', Bool.or_eq_false_iff, decide_eq_false_iff_not] at h
  have := h.1.2.1.1.1
  omega
theorem cellD_text {n : Nat} {c : Cell} (h : cellD n c = true) : c.text.length ≤ 2000 := by
  have hk := cellD_kind h
  unfold cellD at h
  simp only [Bool.and_eq_true] at h
  have h2 := h.2
  split at h2
  · have := h2
    simp only [Bool.and_eq_true, decide_eq_true_eq] at this
    rw [this.1.1]; simp
  split at h2
  · simpa using h2
  split at h2
  · have : c.text.length ≤ 40 := by simpa using h2
    omega
  split at h2
  · simp only [Bool.and_eq_true, decide_eq_true_eq] at h2
    rw [h2.1]; simp
  split at h2
  · simp only [Bool.and_eq_true] at h2
    have := h2.1.1
    unfold constD wordD at this
    simp only [Bool.and_eq_true, decide_eq_true_eq] at this
    omega
  · have : c.text = [] := by simpa using h2
    rw [this]; simp
theorem cellD_names {n : Nat} {c : Cell} (h : cellD n c = true) : ∀ s ∈ c.names, s.length ≤ 40 := by
  intro s hs
  have hk : c.kind = 8 := by
    unfold cellD at h
    simp only [Bool.and_eq_true, Bool.not_eq_true', Bool.or_eq_false_iff, Bool.and_eq_false_iff, decide_eq_false_iff_not] at h
    rcases h.1.2.1.2 with h1 | h1
    · simpa using h1
    · have : c.names = [] := by simpa using h1
      rw [this] at hs; cases hs
  have h1 := cell_eq n c
  rw [h] at h1
  unfold plainS at h1
  simp only [Bool.and_eq_true] at h1
  have h2 := h1.1.2
  rw [if_neg (by omega), if_neg (by omega)] at h2
  simp only [Bool.and_eq_true] at h2
  have := List.all_eq_true.1 h2.2 s hs
  unfold Go.Scan.iiB at this
  simp only [Bool.and_eq_true, decide_eq_true_eq] at this
  exact this.2
theorem cellD_lens {n : Nat} {c : Cell} (h : cellD n c = true) (h8 : c.kind = 8) : c.names.length = c.items.length := by
  have h1 := cell_eq n c
  rw [h] at h1
  unfold plainS at h1
  simp only [Bool.and_eq_true] at h1
  have h2 := h1.1.2
  rw [if_neg (by omega), if_neg (by omega)] at h2
  simp only [Bool.and_eq_true, decide_eq_true_eq] at h2
  exact h2.1.1
theorem valid_short {g : List Cell} {qt : List UInt8 → List UInt8} {it : Int → List UInt8} (hv : ValidP g) (hs : ∀ c ∈ g, c.items.length ≤ 2000) (hq : ∀ s, (qt s).length ≤ 2 * s.length) (hi : ∀ x, (it x).length ≤ 30) : Short (leafS qt it) g := by
  have hall : ∀ a, cellD g.length (at_ g a) = true ∨ at_ g a = nilC := fun a => (at_cases g a).imp (hv.2.1 _) id
  have ht : ∀ a, (at_ g a).text.length ≤ 2000 := fun a => by
    rcases hall a with h | h
    · exact cellD_text h
    · rw [h]; exact Nat.zero_le _
  refine ⟨fun a _ => ?_, fun a _ => ht a, fun a s hsm => ?_, fun a => ?_⟩
  · have h1 := ht a
    have h2 := hq (at_ g a).text
    have h3 := hi (at_ g a).num
    unfold leafS
    repeat' split
    all_goals first | omega | (simp only [List.length_append, List.length_cons, List.length_nil]; omega)
  · rcases hall a with h | h
    · exact cellD_names h s hsm
    · rw [h] at hsm; cases hsm
  · rcases at_cases g a with h | h
    · exact hs _ h
    · rw [h]; exact Nat.zero_le _
end Go.Core
namespace Go.Proofs.YtahjbnfbilkbcaaGreatDoor
open Go.AX Go.RowKit Go.Core Go.Scan
set_option maxRecDepth 20000

structure WEnv (a : Option Addr) (l : List CellP) (E : World → Prop) (qt : List UInt8 → List UInt8) (it : Int → List UInt8) : Prop where
  ha : a = none → l = []
  sm : Small l
  ok : ∀ p ∈ l, CellOk p
  val : ValidP (l.map (·.c))
  q : ∀ p ∈ l, p.c.kind = 4 → ∀ H, SpecH Tryz.prog 98 (pvs [.string (bs p.c.text)]) H (Ret (.string (bs (qt p.c.text))) H)
  ql : ∀ s, (qt s).length ≤ 2 * s.length
  i : ∀ p ∈ l, p.c.kind = 3 → ∀ H, (∀ w, Facts H w → E w) → SpecH Tryz.prog 97 (pvs [.int .i64 p.c.num]) H (Ret (.string (bs (it p.c.num))) H)
  il : ∀ x, (it x).length ≤ 30
theorem WEnv.short {a : Option Addr} {l : List CellP} {E : World → Prop} {qt : List UInt8 → List UInt8} {it : Int → List UInt8} (V : WEnv a l E qt it) : Short (leafS qt it) (l.map (·.c)) :=
  valid_short V.val (fun c hc => by
    obtain ⟨p, hp, rfl⟩ := List.mem_map.1 hc
    exact (V.sm.2 p hp).2) V.ql V.il
theorem contains_c (ob : Option Nat) (cap : Nat) (way : List Int) (x : Int) (hob : ob = none → way = []) (hl : way.length ≤ 200000000000000) : ∀ H, (∀ w, Facts H w → SlAt (at0 ob) (way.length * 1) (iC way) w) → SpecH Tryz.prog 121 (pvs [.slice (at0 ob) way.length cap, .int .i64 x]) H (Ret (.bool (decide (x ∈ way))) H) := fun H hH =>
  SpecH.rawP (R := fun r => r = .bool (decide (x ∈ way))) (callOk Tryz.func121 (by kernel_rfl) rfl) (fun w hw => by
    cases ob with
    | none =>
      obtain rfl := hob rfl
      exact (Tryz.slices_Contains_int_empty _ cap x w).mono fun e w' ⟨he, hw'⟩ => by
        subst hw'
        exact ⟨_, he, by simp, Below.refl _ _⟩
    | some b =>
      have hs := hH w hw
      refine (Tryz.slices_Contains_int b 0 way.length cap way x w (Nat.le_refl _) (by omega) fun j hj => ?_).mono fun e w' ⟨he, hw'⟩ => ?_
      · have := hs.2.2 j (by omega)
        unfold iC at this
        rw [List.getElem?_map, List.getElem?_eq_getElem hj] at this
        rw [List.getD_eq_getElem?_getD, List.getElem?_eq_getElem hj]
        have e2 : ((at0 (some b)).getD default).add j = ⟨b, 0 + j, none⟩ := add_lit _ _ _
        rw [e2] at this
        exact this
      · subst hw'
        refine ⟨_, he, ?_, Below.refl _ _⟩
        rw [List.take_length, List.contains_eq_mem]) fun r hr => by subst hr; exact ⟨rfl, rfl⟩
end Go.Proofs.YtahjbnfbilkbcaaGreatDoor

/-
  Plain: how deep what is reached is.
-/
namespace Go.Core
/-- How deep a cell is. -/
def htF (g : List Cell) : Nat → Int → Nat
  | 0, _ => 0
  | n + 1, i => (outs g i).foldl (fun m k => max m (htF g n k)) 0 + 1
def dep (g : List Cell) (i : Int) : Nat := htF g g.length i
end Go.Core

/-
  Plain: texts and walks do not hang on the purse; the text of an array without circles; joined graphs, copies, what is the same.
-/
namespace Go.Core
/-! ### One graph within another -/
end Go.Core

/-
  Contracts: slices.Equal at strings.
-/
namespace Go.Proofs.YtahjbnfbilkbcaaGreatDoor
open Go.AX Go.RowKit Go.Core
set_option maxRecDepth 20000

theorem out_no {x y : List (List UInt8)} (h : ¬ x = y) : false = decide (x = y) := (decide_eq_false h).symm
theorem SEq_c (a b : Option Addr) (ac bc : Nat) (l m : List (List UInt8)) (ha : a = none → l = []) (hb : b = none → m = []) (hl : l.length ≤ 200000000000000) (hm2 : m.length ≤ 200000000000000) : ∀ H, (∀ w, Facts H w → SlAt a (l.length * 1) (strC l) w ∧ SlAt b (m.length * 1) (strC m) w) → SpecH Tryz.prog 57 (pvs [.slice a l.length ac, .slice b m.length bc]) H (Ret (.bool (decide (l = m))) H) := by
  refine factC hm Tryz.func57 (by kernel_rfl) rfl rfl ?_
  (first | refine wX ?_ | exact wZ)
  refine brd_ne (fun h1 => ?_) (fun h1 => ?_)
  · (first | refine wX ?_ | exact wZ)
    exact out_bool (out_no (fun e => h1 (by rw [e])))
  have hlen : l.length = m.length := by omega
  (first | refine wX ?_ | exact wZ)
  refine loopS Nat (fun i => i ≤ l.length ∧ l.take i = m.take i) (fun i => mkS Tryz.f57.ntmps 0 [(0, .c (.v (.slice a l.length ac))), (1, .c (.v (.slice b m.length bc))), (12, .c (.v (.int .i64 (l.length : Int)))), (13, .c (.v (.int .i64 (i : Int))))]) (fun i => l.length - i) rfl (fun _ => rfl) 0 ⟨Nat.zero_le _, rfl⟩ ?_ ?_
  · (repeat' (first | exact trivial | refine And.intro (by with_reducible rfl) ?_ | (with_reducible exact wkC_refl _) | (with_reducible exact wkCs_refl _) | refine And.intro ?_ ?_))
    all_goals rfl
  intro i ⟨hi, he⟩
  (first | refine wX ?_ | exact wZ)
  refine brd_dec (fun h6 => ?_) (fun h6 => ?_)
  · obtain ⟨s, hs⟩ : ∃ s, l[i]? = some s := ⟨_, List.getElem?_eq_getElem (by omega)⟩
    obtain ⟨t, ht⟩ : ∃ t, m[i]? = some t := ⟨_, List.getElem?_eq_getElem (by omega)⟩
    have hsa : a.isSome = true := by
      cases a with
      | none => rw [ha rfl] at hs; cases hs
      | some b => rfl
    have hsb : b.isSome = true := by
      cases b with
      | none => rw [hb rfl] at ht; cases ht
      | some b => rfl
    (first | refine wX ?_ | exact wZ)
    refine Nd.mk ⟨hsa, by omega, by omega⟩ ?_
    (first | refine wX ?_ | exact wZ)
    refine LdN.one (.string (bs s)) rfl (fun w hw => hw.1.1) (by rw [Int.toNat_natCast]; show (strC l)[i * 1]? = _; rw [Nat.mul_one]; exact strC_get hs) ?_
    (first | refine wX ?_ | exact wZ)
    refine Nd.mk ⟨hsb, by omega, by omega⟩ ?_
    (first | refine wX ?_ | exact wZ)
    refine LdN.one (.string (bs t)) rfl (fun w hw => hw.1.2) (by rw [Int.toNat_natCast]; show (strC m)[i * 1]? = _; rw [Nat.mul_one]; exact strC_get ht) ?_
    (first | refine wX ?_ | exact wZ)
    rw [txt_eq]
    cases h3 : s == t with
    | false =>
      (first | refine wX ?_ | exact wZ)
      exact out_bool (out_no (fun e => by rw [e, ht] at hs; rw [Option.some.inj hs] at h3; simp at h3))
    | true =>
      (first | refine wX ?_ | exact wZ)
      refine ⟨i + 1, ⟨by omega, names_at he hs ht (eq_of_beq h3)⟩, by omega, ?_, by (repeat' (first | exact trivial | exact wkE_refl _ | refine And.intro ?_ ?_))⟩
      (repeat' (first | exact trivial | refine And.intro (by with_reducible rfl) ?_ | (with_reducible exact wkC_refl _) | (with_reducible exact wkCs_refl _) | refine And.intro ?_ ?_))
      all_goals first | rfl | exact av_int (by rw [wrap_i64 (by omega)]; omega)
  · have hil : i = l.length := by omega
    subst hil
    rw [List.take_length, hlen, List.take_length] at he
    (first | refine wX ?_ | exact wZ)
    exact out_bool (decide_eq_true he).symm
end Go.Proofs.YtahjbnfbilkbcaaGreatDoor

/-
  AX, fifty-first text: maps with pairs of numbers as keys.
-/
namespace Go.AX

def pairV (p : Int × Int) : Value := .agg #[.int .i64 p.1, .int .i64 p.2]
/-- The type of a pair. -/
structure PairT (P : Program) (kt it : TypeId) : Prop where
  k : P.underlying kt = some (.array 2 it)
  i : P.underlying it = some (.int .i64)
  s : ∃ inf, P.info? it = some inf ∧ inf.size = 1
section
variable {P : Program} {kt it : TypeId}
theorem PairT.part (h : PairT P kt it) (w : World) {xs : Array Value} {off : Nat} {v : Value} (hx : xs[off]? = some v) : (Go.part it xs off).run P w = .ok v w := by
  simp [Go.part, isAgg, run_underlying h.i, hx]
theorem PairT.int (h : PairT P kt it) (w : World) (n : Nat) (x y : Int) : (Op.equalIn (n + 1) it (.int .i64 x) (.int .i64 y)).run P w = .ok (x == y) w := by
  unfold Op.equalIn
  simp [run_underlying h.i]
theorem PairT.equal (h : PairT P kt it) (w : World) (p q : Int × Int) : (Op.equal kt (pairV p) (pairV q)).run P w = .ok (decide (p = q)) w := by
  obtain ⟨inf, hi, hs⟩ := h.s
  obtain ⟨a, b⟩ := p
  obtain ⟨c, d⟩ := q
  have p1 : ∀ (x y : Int) (w : World), (Go.part it #[.int .i64 x, .int .i64 y] 0).run P w = .ok (.int .i64 x) w := fun x y w => h.part w rfl
  have p2 : ∀ (x y : Int) (w : World), (Go.part it #[.int .i64 x, .int .i64 y] 1).run P w = .ok (.int .i64 y) w := fun x y w => h.part w rfl
  have he := fun x y => h.int w 9998 x y
  have hso : (sizeOf it).run P w = .ok 1 w := by rw [← hs]; simp [sizeOf, typeInfo, hi, Result.andThen]
  show (Op.equalIn (9999 + 1) kt (.agg #[.int .i64 a, .int .i64 b]) (.agg #[.int .i64 c, .int .i64 d])).run P w = _
  unfold Op.equalIn
  simp only [Sem.run_bind, run_underlying h.k, Result.andThen_ok]
  simp only [Std.Legacy.Range.forIn_eq_forIn_range', Std.Legacy.Range.size, Nat.sub_zero, Nat.add_one_sub_one, Nat.div_one]
  rw [show List.range' 0 2 = [0, 1] from rfl]
  simp only [List.forIn_cons, List.forIn_nil, Sem.run_bind, hso, Result.andThen_ok, Nat.mul_one, p1, he]
  by_cases h1 : a = c
  · subst h1
    by_cases h2 : b = d
    · subst h2
      simp [p2, he, Result.andThen]
    · simp [p2, he, Result.andThen, h2]
  · simp [Result.andThen, h1]
theorem PairT.check (h : PairT P kt it) (w : World) (e : Bool) (p : Int × Int) : (Instr.checkKey e 10000 kt (pairV p)).run P w = .ok () w := by
  obtain ⟨inf, hi, hs⟩ := h.s
  obtain ⟨a, b⟩ := p
  have p1 : ∀ (x y : Int) (w : World), (Go.part it #[.int .i64 x, .int .i64 y] 0).run P w = .ok (.int .i64 x) w := fun x y w => h.part w rfl
  have p2 : ∀ (x y : Int) (w : World), (Go.part it #[.int .i64 x, .int .i64 y] 1).run P w = .ok (.int .i64 y) w := fun x y w => h.part w rfl
  have hc : ∀ x, (Instr.checkKey e 9999 it (.int .i64 x)).run P w = .ok () w := fun x => MapKept.run_checkKey (k := .int .i64 x) h.i (by simp [MapKept.IsKey]) e 9998
  have hso : (sizeOf it).run P w = .ok 1 w := by rw [← hs]; simp [sizeOf, typeInfo, hi, Result.andThen]
  show (Instr.checkKey e (9999 + 1) kt (.agg #[.int .i64 a, .int .i64 b])).run P w = _
  unfold Instr.checkKey
  simp only [Sem.run_bind, run_underlying h.k, Result.andThen_ok]
  simp only [Std.Legacy.Range.forIn_eq_forIn_range', Std.Legacy.Range.size, Nat.sub_zero, Nat.add_one_sub_one, Nat.div_one]
  rw [show List.range' 0 2 = [0, 1] from rfl]
  simp only [List.forIn_cons, List.forIn_nil, Sem.run_bind, hso, Result.andThen_ok, Nat.mul_one, p1, p2, hc, Sem.run_pure]
/-- What a map with pairs as keys holds. -/
def PairsAre (es : List MapEntry) (R : List ((Int × Int) × Value)) : Prop := es.map (fun e => (e.key, e.val)) = R.map fun r => (pairV r.1, r.2)
theorem PairT.find (h : PairT P kt it) (w : World) (p : Int × Int) : ∀ (es : List MapEntry) (R : List ((Int × Int) × Value)) (i : Nat), PairsAre es R → ∃ j, (Instr.findAsking kt (pairV p) es i).run P w = .ok ((R.lookup p).map fun v => (j, v)) w
  | [], [], i, _ => ⟨0, by simp [Instr.findAsking]⟩
  | [], r :: R, i, hr => by cases hr
  | e :: es, [], i, hr => by cases hr
  | e :: es, (q, v) :: R, i, hr => by
    unfold PairsAre at hr
    simp only [List.map_cons, List.cons.injEq, Prod.mk.injEq] at hr
    obtain ⟨⟨hk, hv⟩, hr⟩ := hr
    obtain ⟨j, hj⟩ := h.find w p es R (i + 1) hr
    have he := h.equal w p q
    rw [← hk] at he
    by_cases hpq : p = q
    · subst hpq
      refine ⟨i, ?_⟩
      rw [List.lookup_cons, beq_self_eq_true]
      simp [Instr.findAsking, he, hv, Result.andThen]
    · refine ⟨j, ?_⟩
      rw [List.lookup_cons, show (p == q) = false by simp [hpq]]
      simp [Instr.findAsking, he, hpq, hj, Result.andThen]
theorem PairT.findKey (h : PairT P kt it) (w : World) (p : Int × Int) {es : List MapEntry} {R : List ((Int × Int) × Value)} (hr : PairsAre es R) : ∃ j, (Instr.findKey kt (pairV p) es).run P w = .ok ((R.lookup p).map fun v => (j, v)) w := by
  rw [run_findKey_eq w (by rw [h.k])]
  exact h.find w p es R 0 hr
theorem PairsAre.put {es : Array MapEntry} {R : List ((Int × Int) × Value)} (h : PairsAre es.toList R) (p : Int × Int) (v : Value) (born : Nat) : PairsAre (es.push { key := pairV p, val := v, born := born }).toList (R ++ [(p, v)]) := by
  unfold PairsAre at *
  rw [Array.toList_push, List.map_append, List.map_append, h]
  rfl
end
/-- m[k] with a pair -/
theorem ReadW.pairMap {P : Program} {o : Oper} {s : List AV} {H : List Ent} {K : AV → Prop} {t kt et it : TypeId} {m k : Operand} {b c : Nat} {es : Array MapEntry} {p : Int × Int} {inf : TypeInfo} {z : Value} (R : List ((Int × Int) × Value)) (ho : o.op = .lookup t m k false) (ht : P.underlying t = some (.map kt et)) (hkt : PairT P kt it) (hi : P.info? et = some inf) (hz : inf.zero = some z)
    (hm : opv s m = .c (.v (.map (some b)))) (hk : opv s k = .c (.v (pairV p))) (hF : ∀ w, Facts H w → w.heap[b]? = some (.map es c)) (hf : PairsAre es.toList R) (h : K (.c (.v ((R.lookup p).getD z)))) : ReadW P o s H K :=
  ReadW.val ((R.lookup p).getD z) (fun cs b e => by rw [ho] at e; cases e) (by rw [ho]; show allPlain s [m, k] = true; simp [allPlain, hm, hk]) (fun w hw => by
    have hb := hF w hw
    have hc := hkt.check w es.isEmpty p
    obtain ⟨j, hj⟩ := hkt.findKey w p hf
    have hrun : (Instr.lookup t (.map (some b)) (pairV p) false).run P w = .ok ((R.lookup p).getD z) w := by
      cases hr : R.lookup p with
      | none => rw [hr] at hj; simp [Instr.lookup, run_underlying ht, MapKept.run_getObj_map hb, hc, hj, Result.andThen, run_zeroValue hi hz]
      | some q => rw [hr] at hj; simp [Instr.lookup, run_underlying ht, MapKept.run_getObj_map hb, hc, hj, Result.andThen]
    unfold execOp
    simp only [ho, plainEv_v hm, plainEv_v hk, Sem.run_bind, hrun, Result.andThen_ok, Sem.run_pure]) h
/-- [2]int{x, y} -/
theorem ReadW.pair {P : Program} {o : Oper} {s : List AV} {H : List Ent} {K : AV → Prop} {T it : TypeId} {x y : Operand} {a b : Int} {inf : TypeInfo} (ho : o.op = .build T #[(0, x), (1, y)]) (hT : PairT P T it) (hi : P.info? T = some inf) (hz : inf.zero = some (.agg #[.int .i64 0, .int .i64 0]))
    (hx : opv s x = .c (.v (.int .i64 a))) (hy : opv s y = .c (.v (.int .i64 b))) (h : K (.c (.v (pairV (a, b))))) : ReadW P o s H K :=
  ReadW.val (pairV (a, b)) (fun cs b e => by rw [ho] at e; cases e) (by rw [ho]; show allPlain s [x, y] = true; simp [allPlain, hx, hy]) (fun w hw => by
    obtain ⟨i1, hi1, hs1⟩ := hT.s
    have hso : (sizeOf it).run P w = .ok 1 w := by rw [← hs1]; simp [sizeOf, typeInfo, hi1, Result.andThen]
    have hb : (Instr.build T #[(0, plainEv s x), (1, plainEv s y)]).run P w = .ok (pairV (a, b)) w := by
      rw [plainEv_v hx, plainEv_v hy]
      unfold Instr.build
      simp only [Sem.run_bind, run_zeroValue hi hz, run_underlying hT.k, Result.andThen_ok, hso]
      rfl
    unfold execOp
    simp [ho, hb, Result.andThen]) h
/-- m[k] = v: a new pair -/
theorem EffW.putPair {P : Program} {o : Oper} {s : List AV} {H : List Ent} {K : AV → List Ent → Prop} {t kt et it : TypeId} {m k x : Operand} {b c : Nat} {es : Array MapEntry} {p : Int × Int} {val : Value} (i : Nat) (R : List ((Int × Int) × Value)) (ho : o.op = .mapUpdate t m k x) (ht : P.underlying t = some (.map kt et)) (hkt : PairT P kt it)
    (hm : opv s m = .c (.v (.map (some b)))) (hk : opv s k = .c (.v (pairV p))) (hx : opv s x = .c (.v val)) (hi : nthE H i = some (.mp b es c)) (hf : PairsAre es.toList R) (hnew : R.lookup p = none)
    (next : setEK H i (.mp b (es.push { key := pairV p, val := val, born := c }) (c + 1)) fun H' => K (.c .any) H') : EffW P o s H K := by
  rw [nthE_eq] at hi
  obtain ⟨_, hk2⟩ := setEK_spec next
  refine Effs.w (fun ρ S w a hs hr => ?_) hk2
  have h1 : a.eval m = .map (some b) := by have := opv_rel hr m; rw [hm] at this; exact this
  have h2 : a.eval k = pairV p := by have := opv_rel hr k; rw [hk] at this; exact this
  have h3 : a.eval x = val := by have := opv_rel hr x; rw [hx] at this; exact this
  have hb : w.heap[b]? = some (.map es c) := hs.ent i _ hi
  have hbl : b < w.heap.size := (Array.getElem?_eq_some_iff.1 hb).1
  have hc := hkt.check w false p
  obtain ⟨j, hj⟩ := hkt.findKey w p hf
  rw [hnew] at hj
  have hrun : (Instr.mapUpdate t (.map (some b)) (pairV p) val).run P w = .ok () { w with heap := w.heap.setIfInBounds b (.map (es.push { key := pairV p, val := val, born := c }) (c + 1)) } := by
    simp [Instr.mapUpdate, run_underlying ht, MapKept.run_getObj_map hb, hc, hj, MapKept.run_setObj_map _ hb, Result.andThen]
  have hS := hs.setG (e' := .mp b (es.push { key := pairV p, val := val, born := c }) (c + 1)) (c := b) (w' := { w with heap := w.heap.setIfInBounds b (.map (es.push { key := pairV p, val := val, born := c }) (c + 1)) }) hi rfl (by simp) (fun j _ hne => by simp [Ne.symm hne]) rfl rfl rfl (fun _ hc => .inl (Option.some.inj hc).symm) (by show (w.heap.setIfInBounds b _)[b]? = _; simp [hbl])
  refine ⟨.skip, undef, ρ, _, ?_, .inr ⟨rfl, rfl⟩, hS.1, hS.2, trivial⟩
  unfold execOp
  simp only [ho, h1, h2, h3, Sem.run_bind, Sem.run_pure, hrun, Result.andThen_ok]
end Go.AX

/-
  Contract: the closure that walks two cells (program's Equal).
-/
namespace Go.Core
def seenR (R : List (Int × Int)) : List ((Int × Int) × Value) := R.map fun p => (p, .bool true)
theorem seen_get (R : List (Int × Int)) (p : Int × Int) : ((seenR R).lookup p).getD (.bool false) = .bool (decide (p ∈ R)) := by
  unfold seenR
  induction R with
  | nil => rfl
  | cons q R ih =>
    rw [List.map_cons, List.lookup_cons]
    by_cases h : p = q
    · subst h
      rw [beq_self_eq_true]
      simp
    · rw [show (p == q) = false by simp [h], ih]
      simp [h]
theorem seen_none {R : List (Int × Int)} {p : Int × Int} (h : ¬ p ∈ R) : (seenR R).lookup p = none := by
  unfold seenR
  induction R with
  | nil => rfl
  | cons q R ih =>
    rw [List.map_cons, List.lookup_cons]
    simp only [List.mem_cons, not_or] at h
    rw [show (p == q) = false by simp [h.1]]
    exact ih h.2
theorem seen_put (R : List (Int × Int)) (p : Int × Int) : seenR R ++ [(p, .bool true)] = seenR (R ++ [p]) := by unfold seenR; rw [List.map_append]; rfl
end Go.Core
namespace Go.Proofs.YtahjbnfbilkbcaaGreatDoor
open Go.AX Go.RowKit Go.Core
set_option maxRecDepth 20000

theorem alike_of {x y : Cell} (h1 : x.kind = y.kind) (h2 : x.num = y.num) (h3 : x.text = y.text) (h4 : x.names = y.names) (h5 : x.items.length = y.items.length) : alikeB x y = true := by
  unfold alikeB
  simp [h1, h2, h3, h4, h5]
theorem pairT : PairT Tryz.prog 95 3 := ⟨by kernel_rfl, by kernel_rfl, _, rfl, rfl⟩
/-- What the closure knows. -/
def eqF (a : Option Addr) (ca : Nat) (l : List CellP) (sb gb fb mb : Nat) (w : World) : Prop :=
  GrF a l w ∧ SlAt (some ⟨sb, 0, none⟩) 1 [.map (some mb)] w ∧ SlAt (some ⟨gb, 0, none⟩) 1 [.slice a l.length ca] w ∧ SlAt (some ⟨fb, 0, none⟩) 1 [.func (.func 56) #[] #[.pointer (some ⟨sb, 0, none⟩), .pointer (some ⟨gb, 0, none⟩), .pointer (some ⟨fb, 0, none⟩)]] w
def eqA (u v : Int) (sb gb fb : Nat) : List AV := pvs [.int .i64 u, .int .i64 v, .pointer (some ⟨sb, 0, none⟩), .pointer (some ⟨gb, 0, none⟩), .pointer (some ⟨fb, 0, none⟩)]
def eqH (F : World → Prop) (mb : Nat) (i : Array MapEntry × Nat) : List Ent := [.mp mb i.1 i.2, .fact F]
theorem eqH_ok (F : World → Prop) (mb : Nat) (i : Array MapEntry × Nat) : okH (eqH F mb i).length (eqH F mb i) := okHB_eq rfl
set_option maxHeartbeats 4000000 in
theorem same_c (a : Option Addr) (ca : Nat) (l : List CellP) (ha : a = none → l = []) (hs : Small l) (hok : ∀ p ∈ l, CellOk p) (hg : InG (l.map (·.c))) (sb gb fb mb : Nat) : ∀ (n : Nat) (R : List (Int × Int)) (i : Array MapEntry × Nat) (p : Int × Int), InP (l.map (·.c)) p → left (l.map (·.c)) R < n → PairsAre i.1.toList (seenR R) →
    SpecH Tryz.prog 56 (eqA p.1 p.2 sb gb fb) (eqH (eqF a ca l sb gb fb mb) mb i) (RetG (ι := Array MapEntry × Nat) (fun j => PairsAre j.1.toList (seenR (sameF (l.map (·.c)) n R p).2)) (fun _ => .bool (sameF (l.map (·.c)) n R p).1) (eqH (eqF a ca l sb gb fb mb) mb)) := by
  intro n
  induction n with
  | zero => intro R i p _ h; omega
  | succ n ih =>
    rintro R ⟨es, c⟩ ⟨u0, v0⟩ hp hn hR
    obtain ⟨u, rfl⟩ : ∃ u : Nat, u0 = (u : Int) := ⟨u0.toNat, by have := hp.1; simp only at this; omega⟩
    obtain ⟨v, rfl⟩ : ∃ v : Nat, v0 = (v : Int) := ⟨v0.toNat, by have := hp.2; simp only at this; omega⟩
    have hu : u < l.length := by have := hp.1.2; simp only [List.length_map] at this; omega
    have hv : v < l.length := by have := hp.2.2; simp only [List.length_map] at this; omega
    obtain ⟨x, hx⟩ : ∃ x, l[u]? = some x := ⟨_, List.getElem?_eq_getElem hu⟩
    obtain ⟨y, hy⟩ : ∃ y, l[v]? = some y := ⟨_, List.getElem?_eq_getElem hv⟩
    have hxm := List.mem_of_getElem? hx
    have hym := List.mem_of_getElem? hy
    have hxo := hok x hxm
    have hyo := hok y hym
    have hxs := hs.2 x hxm
    have hys := hs.2 y hym
    have hl := hs.1
    have hsa : a.isSome = true := by
      cases a with
      | none => rw [ha rfl] at hu; exact absurd hu (Nat.not_lt_zero _)
      | some b => rfl
    show SpecH _ _ (eqA (u : Int) (v : Int) sb gb fb) _ _
    refine ownC hm Tryz.func56 (by kernel_rfl) rfl rfl (fun _ _ => eqH_ok _ _ _) (fun _ _ => Nat.le_refl _) ?_
    (first | refine wX ?_ | exact wZ)
    refine LdN.one (a := some ⟨sb, 0, none⟩) (q := 0) (.map (some mb)) rfl (fun w hw => hw.2.1.2.1) rfl ?_
    (first | refine wX ?_ | exact wZ)
    refine ReadW.pair rfl pairT rfl rfl rfl rfl ?_
    (first | refine wX ?_ | exact wZ)
    refine ReadW.pairMap (et := 4) (seenR R) rfl (by kernel_rfl) pairT rfl rfl rfl rfl (fun w hw => hw.1) hR ?_
    rw [seen_get]
    (first | refine wX ?_ | exact wZ)
    refine brd_dec (fun hmem => ?_) (fun hmem => ?_)
    · have hsf : sameF (l.map (·.c)) (n + 1) R ((u : Int), (v : Int)) = (true, R) := by unfold sameF; rw [if_pos hmem]
      rw [hsf]
      (first | refine wX ?_ | exact wZ)
      exact ⟨(es, c), hR, rfl, wkH_refl _⟩
    have hsf : sameF (l.map (·.c)) (n + 1) R ((u : Int), (v : Int)) = if ok (l.map (·.c)) ((u : Int), (v : Int)) then walkL (sameF (l.map (·.c)) n) (R ++ [((u : Int), (v : Int))]) (nextP (l.map (·.c)) ((u : Int), (v : Int))) else (false, R ++ [((u : Int), (v : Int))]) := by
      conv => lhs; unfold sameF
      rw [if_neg hmem]
    rw [hsf]
    have hlt := left_lt hp hmem
    have hR2 := hR.put ((u : Int), (v : Int)) (.bool true) c
    rw [seen_put] at hR2
    (first | refine wX ?_ | exact wZ)
    refine LdN.one (a := some ⟨sb, 0, none⟩) (q := 0) (.map (some mb)) rfl (fun w hw => hw.2.1.2.1) rfl ?_
    (first | refine wX ?_ | exact wZ)
    refine ReadW.pair rfl pairT rfl rfl rfl rfl ?_
    (first | refine wX ?_ | exact wZ)
    refine EffW.putPair (et := 4) 0 (seenR R) rfl (by kernel_rfl) pairT rfl rfl rfl rfl hR (seen_none hmem) ?_
    simp only at hR2
    generalize R ++ [((u : Int), (v : Int))] = R2 at *
    generalize es.push { key := pairV ((u : Int), (v : Int)), val := .bool true, born := c } = es2 at *
    generalize c + 1 = c2 at *
    (first | refine wX ?_ | exact wZ)
    refine DrawN.planR hm (fun w => eqF a ca l sb gb fb mb w) [1, 5] [(0, 1), (4, 1), (2, 1), (3, 1), (6, 1), (7, 1), (8, 2), (9, 2), (10, 0), (11, 0)] (by decide +kernel) (fun w hw => hw.2.1) ?_
    -- fun w hw => hw.2.1: why the kind holds
    ((conv => whnf); (repeat ((first | refine Nd.mk (fun w hw => hw.2.1) ?_ | refine VrN.norm (wrap_i64 (by omega)) ?_ | refine VrN.keep ?_ | refine DrawN.calm (by decide +kernel) ?_ | refine Nd.mk (by decide +kernel) ?_ | refine Nd.mk (by omega) ?_ | refine RdN.intro _ rfl (by rfl) ?_); (conv => whnf))))
    refine ReadC.one (a := some ⟨gb, 0, none⟩) (q := 0) (.slice a l.length ca) rfl rfl rfl (fun w hw => hw.2.2.1) rfl ?_
    -- fun w hw => hw.2.1: why the kind holds
    ((conv => whnf); (repeat ((first | refine Nd.mk (fun w hw => hw.2.1) ?_ | refine VrN.norm (wrap_i64 (by omega)) ?_ | refine VrN.keep ?_ | refine DrawN.calm (by decide +kernel) ?_ | refine Nd.mk (by decide +kernel) ?_ | refine Nd.mk (by omega) ?_ | refine RdN.intro _ rfl (by rfl) ?_); (conv => whnf))))
    refine ReadC.one (a := some ⟨gb, 0, none⟩) (q := 0) (.slice a l.length ca) rfl rfl rfl (fun w hw => hw.2.2.1) rfl ?_
    -- fun w hw => hw.2.1: why the kind holds
    ((conv => whnf); (repeat ((first | refine Nd.mk (fun w hw => hw.2.1) ?_ | refine VrN.norm (wrap_i64 (by omega)) ?_ | refine VrN.keep ?_ | refine DrawN.calm (by decide +kernel) ?_ | refine Nd.mk (by decide +kernel) ?_ | refine Nd.mk (by omega) ?_ | refine RdN.intro _ rfl (by rfl) ?_); (conv => whnf))))
    refine ReadC.idxA (e := 42) (sz := 5) u rfl Tryz.underlying22 rfl rfl rfl rfl hsa hu ?_
    -- fun w hw => hw.2.1: why the kind holds
    ((conv => whnf); (repeat ((first | refine Nd.mk (fun w hw => hw.2.1) ?_ | refine VrN.norm (wrap_i64 (by omega)) ?_ | refine VrN.keep ?_ | refine DrawN.calm (by decide +kernel) ?_ | refine Nd.mk (by decide +kernel) ?_ | refine Nd.mk (by omega) ?_ | refine RdN.intro _ rfl (by rfl) ?_); (conv => whnf))))
    refine ReadC.agg (cellC x) rfl rfl rfl (fun w hw => hw.1.1) rfl (fun k hk => grC_get l u k hk hx) ?_
    -- fun w hw => hw.2.1: why the kind holds
    ((conv => whnf); (repeat ((first | refine Nd.mk (fun w hw => hw.2.1) ?_ | refine VrN.norm (wrap_i64 (by omega)) ?_ | refine VrN.keep ?_ | refine DrawN.calm (by decide +kernel) ?_ | refine Nd.mk (by decide +kernel) ?_ | refine Nd.mk (by omega) ?_ | refine RdN.intro _ rfl (by rfl) ?_); (conv => whnf))))
    refine ReadC.idxA (e := 42) (sz := 5) v rfl Tryz.underlying22 rfl rfl rfl rfl hsa hv ?_
    -- fun w hw => hw.2.1: why the kind holds
    ((conv => whnf); (repeat ((first | refine Nd.mk (fun w hw => hw.2.1) ?_ | refine VrN.norm (wrap_i64 (by omega)) ?_ | refine VrN.keep ?_ | refine DrawN.calm (by decide +kernel) ?_ | refine Nd.mk (by decide +kernel) ?_ | refine Nd.mk (by omega) ?_ | refine RdN.intro _ rfl (by rfl) ?_); (conv => whnf))))
    refine ReadC.agg (cellC y) rfl rfl rfl (fun w hw => hw.1.1) rfl (fun k hk => grC_get l v k hk hy) ?_
    -- fun w hw => hw.2.1: why the kind holds
    ((conv => whnf); (repeat ((first | refine Nd.mk (fun w hw => hw.2.1) ?_ | refine VrN.norm (wrap_i64 (by omega)) ?_ | refine VrN.keep ?_ | refine DrawN.calm (by decide +kernel) ?_ | refine Nd.mk (by decide +kernel) ?_ | refine Nd.mk (by omega) ?_ | refine RdN.intro _ rfl (by rfl) ?_); (conv => whnf))))
    have hoke : ok (l.map (·.c)) ((u : Int), (v : Int)) = alikeB x.c y.c := by unfold ok; rw [at_map hx, at_map hy]
    have hnx : nextP (l.map (·.c)) ((u : Int), (v : Int)) = x.c.items.zip y.c.items := by unfold nextP; rw [at_map hx, at_map hy]
    rw [hoke, hnx]
    refine brd_ne (fun h1 => ?_) (fun h1 => ?_)
    · -- 1: which one of the five it is
      rw [if_neg (show ¬ alikeB x.c y.c = true from fun h => h1 ((alike_to h).1))]
      (first | refine wX ?_ | exact wZ)
      exact ⟨(es2, c2), hR2, rfl, wkE_refl _, wkE_refl _, trivial⟩
    (first | refine wX ?_ | exact wZ)
    refine brd_ne (fun h2 => ?_) (fun h2 => ?_)
    · have h1 := h2
      -- 2.1: which one of the five it is
      rw [if_neg (show ¬ alikeB x.c y.c = true from fun h => h1 ((alike_to h).2.1))]
      (first | refine wX ?_ | exact wZ)
      exact ⟨(es2, c2), hR2, rfl, wkE_refl _, wkE_refl _, trivial⟩
    (first | refine wX ?_ | exact wZ)
    try rw [bne]
    rw [txt_eq]
    cases h3 : x.c.text == y.c.text with
    | false =>
      have h1 : ¬ x.c.text = y.c.text := by simpa using h3
      -- 2.2.1: which one of the five it is
      rw [if_neg (show ¬ alikeB x.c y.c = true from fun h => h1 ((alike_to h).2.2.1))]
      (first | refine wX ?_ | exact wZ)
      exact ⟨(es2, c2), hR2, rfl, wkE_refl _, wkE_refl _, trivial⟩
    | true =>
    have h3' : x.c.text = y.c.text := eq_of_beq h3
    (first | refine wX ?_ | exact wZ)
    refine call1 (SEq_c x.na y.na x.nc y.nc x.c.names y.c.names hxo.na hyo.na hxo.nl hyo.nl _ (fun w hw => ⟨(hw.2.1.1.2 x hxm).1, (hw.2.1.1.2 y hym).1⟩)) ?_
    cases h4 : decide (x.c.names = y.c.names) with
    | false =>
      have h1 : ¬ x.c.names = y.c.names := of_decide_eq_false h4
      -- 2.2.2.1: which one of the five it is
      rw [if_neg (show ¬ alikeB x.c y.c = true from fun h => h1 ((alike_to h).2.2.2.1))]
      (first | refine wX ?_ | exact wZ)
      exact ⟨(es2, c2), hR2, rfl, wkE_refl _, wkE_refl _, trivial⟩
    | true =>
    have h4' := of_decide_eq_true h4
    (first | refine wX ?_ | exact wZ)
    refine brd_ne (fun h5 => ?_) (fun h5 => ?_)
    · have h1 : ¬ x.c.items.length = y.c.items.length := fun e => h5 (by rw [e])
      -- 2.2.2.2: which one of the five it is
      rw [if_neg (show ¬ alikeB x.c y.c = true from fun h => h1 ((alike_to h).2.2.2.2))]
      (first | refine wX ?_ | exact wZ)
      exact ⟨(es2, c2), hR2, rfl, wkE_refl _, wkE_refl _, trivial⟩
    have h5' : x.c.items.length = y.c.items.length := by omega
    rw [if_pos (show alikeB x.c y.c = true from alike_of h1 h2 h3' h4' h5')]
    (first | refine wX ?_ | exact wZ)
    obtain ⟨W, hW⟩ : ∃ W, W = walkL (sameF (l.map (·.c)) n) R2 (x.c.items.zip y.c.items) := ⟨_, rfl⟩
    rw [← hW]
    refine LoopN.intro (Nat × (Array MapEntry × Nat) × List (Int × Int)) (fun ⟨k, j, R3⟩ => k ≤ x.c.items.length ∧ PairsAre j.1.toList (seenR R3) ∧ (∀ q ∈ R2, q ∈ R3) ∧ walkL (sameF (l.map (·.c)) n) R3 ((x.c.items.zip y.c.items).drop k) = W)
      (fun ⟨k, j, R3⟩ => mkS Tryz.f56.ntmps 0 [(4, .c (.v (.pointer (some ⟨fb, 0, none⟩)))), (8, .c (.lp 2 0)), (9, .c (.lp 3 0)), (66, .c (.v (.int .i64 (x.c.items.length : Int)))), (67, .c (.v (.int .i64 (k : Int))))])
      (fun ⟨k, j, R3⟩ => [.mp mb j.1 j.2, .fact (eqF a ca l sb gb fb mb), .blk 42 (vs (cellC x)), .blk 42 (vs (cellC y))]) (fun ⟨k, _, _⟩ => x.c.items.length - k) [] rfl (fun ⟨_, _, _⟩ => rfl) (fun ⟨_, _, _⟩ => rfl) (fun ⟨_, _, _⟩ _ => okHB_eq rfl) ?_ ?_
    · refine ⟨(0, (es2, c2), R2), ⟨Nat.zero_le _, hR2, fun _ h => h, hW.symm⟩, ?_, wkE_refl _, wkE_refl _, wkE_refl _, wkE_refl _, trivial⟩
      (repeat' (first | exact trivial | refine And.intro (by with_reducible rfl) ?_ | (with_reducible exact wkC_refl _) | (with_reducible exact wkCs_refl _) | refine And.intro ?_ ?_))
      all_goals rfl
    rintro ⟨k, ⟨es3, c3⟩, R3⟩ ⟨hk, hR3, hsub, hwk⟩
    simp only at hR3
    (first | refine wX ?_ | exact wZ)
    refine brd_dec (fun h6 => ?_) (fun h6 => ?_)
    · obtain ⟨xi, hxi⟩ : ∃ z, x.c.items[k]? = some z := ⟨_, List.getElem?_eq_getElem (by omega)⟩
      obtain ⟨yi, hyi⟩ : ∃ z, y.c.items[k]? = some z := ⟨_, List.getElem?_eq_getElem (by omega)⟩
      have hxa : x.ia.isSome = true := by
        cases hq : x.ia with
        | none => rw [hxo.ia hq] at hxi; cases hxi
        | some b => rfl
      have hya : y.ia.isSome = true := by
        cases hq : y.ia with
        | none => rw [hyo.ia hq] at hyi; cases hyi
        | some b => rfl
      ((conv => whnf); (repeat ((first | refine VrN.keep ?_ | refine BoxN.own ?_ | refine RwN.own ?_); (conv => whnf))))
      refine DrawN.plan [1, 3, 6, 8] [(0, 1), (2, 1), (4, 1), (5, 1), (7, 1), (9, 1), (10, 1)] [(11, 0), (12, 0)] (by decide +kernel) ?_
      (first | refine wX ?_ | exact wZ)
      refine LdN.one (a := some ⟨fb, 0, none⟩) (q := 0) (.func (.func 56) #[] #[.pointer (some ⟨sb, 0, none⟩), .pointer (some ⟨gb, 0, none⟩), .pointer (some ⟨fb, 0, none⟩)]) rfl (fun w hw => hw.2.1.2.2.2) rfl ?_
      (first | refine wX ?_ | exact wZ)
      refine Nd.mk ⟨hxa, by omega, by omega⟩ ?_
      (first | refine wX ?_ | exact wZ)
      refine LdN.one (.int .i64 xi) rfl (fun w hw => (hw.2.1.1.2 x hxm).2) (by rw [Int.toNat_natCast]; show (iC x.c.items)[k * 1]? = _; rw [Nat.mul_one]; exact iC_get hxi) ?_
      (first | refine wX ?_ | exact wZ)
      refine Nd.mk ⟨hya, by omega, by omega⟩ ?_
      (first | refine wX ?_ | exact wZ)
      refine LdN.one (.int .i64 yi) rfl (fun w hw => (hw.2.1.1.2 y hym).2) (by rw [Int.toNat_natCast]; show (iC y.c.items)[k * 1]? = _; rw [Nat.mul_one]; exact iC_get hyi) ?_
      (first | refine wX ?_ | exact wZ)
      refine SpecH.args (args' := eqA xi yi sb gb fb) (by simp [eqA, pvs, opvs, opv, nth, plainEv]; try rfl) ?_
      have hz : (x.c.items.zip y.c.items)[k]? = some (xi, yi) := List.getElem?_zip_eq_some.2 ⟨hxi, hyi⟩
      have hin : InP (l.map (·.c)) (xi, yi) := next_in hg hp (by rw [hnx]; exact List.mem_of_getElem? hz)
      have hlf := left_mono (g := l.map (·.c)) hsub
      refine callG (ih R3 (es3, c3) (xi, yi) hin (by omega) hR3) [0, 1] rfl ⟨rfl, rfl, trivial⟩ rfl fun ⟨es4, c4⟩ hR4 => ?_
      obtain ⟨⟨b, R4⟩, hb⟩ : ∃ z, sameF (l.map (·.c)) n R3 (xi, yi) = z := ⟨_, rfl⟩
      have hk1 : k < (x.c.items.zip y.c.items).length := (List.getElem?_eq_some_iff.1 hz).1
      rw [List.drop_eq_getElem_cons hk1, (List.getElem?_eq_some_iff.1 hz).2] at hwk
      unfold walkL at hwk
      rw [hb] at hwk hR4 ⊢
      simp only at hwk hR4 ⊢
      cases b with
      | false =>
        simp only at hwk
        subst hwk
        (first | refine wX ?_ | exact wZ)
        exact ⟨(es4, c4), hR4, rfl, wkE_refl _, wkE_refl _, trivial⟩
      | true =>
        simp only at hwk
        (first | refine wX ?_ | exact wZ)
        refine ⟨(k + 1, (es4, c4), R4), ⟨by omega, hR4, fun q hq => (same_true hg n R3 R4 (xi, yi) hin (by omega) hb).1 q (hsub q hq), hwk⟩, by show x.c.items.length - (k + 1) < x.c.items.length - k; omega, ?_, wkE_refl _, wkE_refl _, wkE_refl _, wkE_refl _, trivial⟩
        (repeat' (first | exact trivial | refine And.intro (by with_reducible rfl) ?_ | (with_reducible exact wkC_refl _) | (with_reducible exact wkCs_refl _) | refine And.intro ?_ ?_))
        all_goals first | rfl | exact av_int (by rw [wrap_i64 (by omega)]; omega)
    · have hkl : k = x.c.items.length := by omega
      subst hkl
      rw [List.drop_of_length_le (by rw [List.length_zip]; omega)] at hwk
      subst hwk
      (first | refine wX ?_ | exact wZ)
      exact ⟨(es3, c3), hR3, rfl, wkE_refl _, wkE_refl _, trivial⟩
end Go.Proofs.YtahjbnfbilkbcaaGreatDoor

/-
  Contract: Equal (program).
-/
namespace Go.Core
theorem valid_in {g : List Cell} (h : ValidP g) : InG g := by
  intro c hc i hi
  have h1 := h.2.1 c hc
  unfold cellD rangeB at h1
  simp only [Bool.and_eq_true] at h1
  have := List.all_eq_true.1 h1.1.1 i hi
  simp only [Bool.and_eq_true, decide_eq_true_eq] at this
  exact this
theorem left_nil (g : List Cell) : left g [] < g.length * g.length + 1 := Nat.lt_succ_of_le (Nat.le_trans (List.length_filter_le _ _) (by rw [allP_len]; exact Nat.le_refl _))
end Go.Core
namespace Go.Proofs.YtahjbnfbilkbcaaGreatDoor
open Go.AX Go.RowKit Go.Core
set_option maxRecDepth 20000

set_option maxHeartbeats 4000000 in
theorem Equal_c {a : Option Addr} (ca : Nat) {l : List CellP} (ha : a = none → l = []) (hs : Small l) (hok : ∀ p ∈ l, CellOk p) (u v : Int) :
    ∀ H, (∀ w, Facts H w → GrF a l w) → ∃ e : Bool, (e = true ↔ AskP (l.map (·.c)) [u, v]) ∧ SpecH Tryz.prog 24 (pvs [.slice a l.length ca, .int .i64 u, .int .i64 v]) H (Ret (.tuple #[.bool (e && sameB (l.map (·.c)) (u, v)), errI e]) H) := by
  intro H hH
  obtain ⟨e, he⟩ : ∃ b : Bool, b = true ↔ AskP (l.map (·.c)) [u, v] := by
    by_cases h : AskP (l.map (·.c)) [u, v]
    · exact ⟨true, fun _ => h, fun _ => rfl⟩
    · exact ⟨false, (fun h => by cases h), fun h2 => absurd h2 h⟩
  refine ⟨e, he, ?_⟩
  refine factC hm Tryz.func24 (by kernel_rfl) rfl rfl ?_ H hH
  (conv => whnf)
  refine BoxN.known [.slice a l.length ca] rfl fun gb => ?_
  ((conv => whnf); (repeat ((first | refine VrN.keep ?_ | refine BoxN.own ?_ | refine RwN.own ?_); (conv => whnf))))
  refine LdN.one (a := some ⟨gb, 0, none⟩) (q := 0) (.slice a l.length ca) rfl (fun w hw => hw.2.1) rfl ?_
  ((conv => whnf); (repeat ((first | refine BoxN.own ?_ | refine VrN.norm (wrap_i64 (by omega)) ?_ | refine VrN.keep ?_ | refine DrawN.calm (by decide +kernel) ?_ | refine Nd.mk (by decide +kernel) ?_ | refine Nd.mk (by omega) ?_ | (refine Nd.mk ?_ ?_; focus ((repeat' (first | exact trivial | exact wkE_refl _ | refine And.intro ?_ ?_)); done)) | refine RdN.intro _ rfl (by rfl) ?_); (conv => whnf))))
  refine RwN.known [.int .i64 u, .int .i64 v] rfl fun rb => ?_
  ((conv => whnf); (repeat ((first | refine BoxN.own ?_ | refine VrN.norm (wrap_i64 (by omega)) ?_ | refine VrN.keep ?_ | refine DrawN.calm (by decide +kernel) ?_ | refine Nd.mk (by decide +kernel) ?_ | refine Nd.mk (by omega) ?_ | (refine Nd.mk ?_ ?_; focus ((repeat' (first | exact trivial | exact wkE_refl _ | refine And.intro ?_ ?_)); done)) | refine RdN.intro _ rfl (by rfl) ?_); (conv => whnf))))
  obtain ⟨t, ht1, ht2⟩ := asked_c a ca l ha hs hok (some ⟨rb, 0, none⟩) 2 [u, v] (fun h => by cases h) (by simp) [.fact (GrF a l), .app 22 1 [.slice a l.length ca] (some ⟨gb, 0, none⟩) 1 1, .app 3 1 [.int .i64 u, .int .i64 v] (some ⟨rb, 0, none⟩) 2 2] (fun w hw => ⟨hw.1, hw.2.2.1⟩)
  obtain rfl : t = e := by rw [Bool.eq_iff_iff, ht1, he]
  refine call1 ht2 ?_
  cases t with
  | false =>
    (first | refine wX ?_ | exact wZ)
    rfl
  | true =>
    have hask := he.1 rfl
    have hin := valid_in hask.1
    (first | refine wXB ?_ | exact wZB)
    refine EffW.mkMap rfl fun mb => ?_
    (first | refine wXB ?_ | exact wZB)
    refine BoxN.known [.map none] rfl fun sb => ?_
    (first | refine wXB ?_ | exact wZB)
    refine EffW.appTo (i := 4) (q := 0) (ys := [.map (some mb)]) [.map (some mb)] 1 rfl rfl rfl rfl rfl rfl rfl (Nat.le_of_ble_eq_true rfl) rfl rfl ?_
    (first | refine wXB ?_ | exact wZB)
    refine BoxN.known [.nilFunc] rfl fun fb => ?_
    (first | refine wXB ?_ | exact wZB)
    refine EffW.appTo (i := 5) (q := 0) (ys := [.func (.func 56) #[] #[.pointer (some ⟨sb, 0, none⟩), .pointer (some ⟨gb, 0, none⟩), .pointer (some ⟨fb, 0, none⟩)]]) [.func (.func 56) #[] #[.pointer (some ⟨sb, 0, none⟩), .pointer (some ⟨gb, 0, none⟩), .pointer (some ⟨fb, 0, none⟩)]] 1 rfl rfl rfl (by simp [opv, nth, plainEv, avCells, vs]; try rfl) rfl rfl rfl (Nat.le_of_ble_eq_true rfl) rfl rfl ?_
    (first | refine wXB ?_ | exact wZB)
    refine LdN.one (a := some ⟨fb, 0, none⟩) (q := 0) (.func (.func 56) #[] #[.pointer (some ⟨sb, 0, none⟩), .pointer (some ⟨gb, 0, none⟩), .pointer (some ⟨fb, 0, none⟩)]) rfl (fun w hw => hw.2.2.2.2.2.1) rfl ?_
    (first | refine wXB ?_ | exact wZB)
    refine SpecH.args (args' := eqA u v sb gb fb) (by simp [eqA, pvs, opvs, opv, nth, plainEv]; try rfl) ?_
    refine SpecH.turn [.fact (GrF a l), .fact (eqF a ca l sb gb fb mb), .dead, .mp mb #[] 0, .dead, .dead] ⟨.inr (.inl rfl), .inr (.inr ⟨_, rfl, fun w hw => ⟨hw.1, hw.2.2.2.1, hw.2.1, hw.2.2.2.2.1⟩⟩), .inl rfl, .inr (.inl rfl), .inl rfl, .inl rfl, trivial⟩ ?_
    have hu := hask.2 u (by simp)
    have hv := hask.2 v (by simp)
    refine callG (same_c a ca l ha hs hok hin sb gb fb mb ((l.map (·.c)).length * (l.map (·.c)).length + 1) [] (#[], 0) (u, v) ⟨hu, hv⟩ (left_nil _) rfl) [3, 1] rfl ⟨rfl, rfl, trivial⟩ rfl fun ⟨es4, c4⟩ _ => ?_
    (first | refine wX ?_ | exact wZ)
    rfl
end Go.Proofs.YtahjbnfbilkbcaaGreatDoor

/-
  Plain: copies and joined graphs are valid.
-/
namespace Go.Core
end Go.Core

/-
  Plain: a graph whose cells are changed one by one, and its rows; graphs in whose arrays b stands for a are valid.
-/
namespace Go.Core
theorem putFor_key {a b : Int} {c d : Cell} : oneKeyB (putFor a b c) (putFor a b d) = oneKeyB c d := by
  have hc : ∀ c : Cell, (putFor a b c).kind = c.kind ∧ (putFor a b c).num = c.num ∧ (putFor a b c).text = c.text := fun c => by
    unfold putFor
    split <;> simp
  obtain ⟨c1, c2, c3⟩ := hc c
  obtain ⟨d1, d2, d3⟩ := hc d
  unfold oneKeyB isLeaf
  rw [c1, c2, c3, d1, d2, d3]
theorem twice_put {g : List Cell} {a b : Int} {it : List Int} (h : Twice (g.map (putFor a b)) it) : Twice g it := by
  obtain ⟨i, k, h1, h2, h3, h4, h5⟩ := h
  refine ⟨i, k, h1, h2, h3, h4, ?_⟩
  unfold keyB at h5 ⊢
  rw [at_put, at_put, putFor_key] at h5
  exact h5
theorem cellD_put {n : Nat} {c : Cell} {a b : Int} (hb : 0 ≤ b ∧ b < (n : Int)) (h : cellD n c = true) : cellD n (putFor a b c) = true := by
  unfold putFor
  by_cases h6 : c.kind = 6
  · rw [if_pos h6]
    have hr : rangeB n { c with items := c.items.map fun i => if i = a then b else i } = true := by
      unfold rangeB
      rw [List.all_eq_true]
      intro y hy
      obtain ⟨x, hx, rfl⟩ := List.mem_map.1 hy
      have hx2 := cellD_in h x hx
      split
      · simp [hb.1, hb.2]
      · simp [hx2.1, hx2.2]
    unfold cellD at h ⊢
    rw [hr, Bool.true_and]
    rw [Bool.and_assoc, Bool.and_eq_true] at h
    have h2 := h.2
    simp only [List.map_eq_nil_iff, List.length_map] at *
    exact h2
  · rw [if_neg h6]; exact h
theorem valid_put {g : List Cell} {a b : Int} (hv : ValidP g) (hb : InI g b) : ValidP (g.map (putFor a b)) := by
  have hb2 : 0 ≤ b ∧ b < (g.length : Int) := hb
  refine ⟨by rw [List.length_map]; exact hv.1, fun c hc => ?_, fun c hc h7 ht => ?_⟩
  · obtain ⟨d, hd, rfl⟩ := List.mem_map.1 hc
    rw [List.length_map]
    exact cellD_put hb2 (hv.2.1 d hd)
  · obtain ⟨d, hd, rfl⟩ := List.mem_map.1 hc
    have hk : d.kind = 7 := by
      unfold putFor at h7
      split at h7 <;> exact h7
    have hi : (putFor a b d).items = d.items := by
      unfold putFor
      rw [if_neg (by omega)]
    rw [hi] at ht
    exact hv.2.2 d hd hk (twice_put ht)
/-- The first k of the items are changed. -/
def mixI (f : Int → Int) (k : Nat) (its : List Int) : List Int := (its.take k).map f ++ its.drop k
theorem mixI_zero (f : Int → Int) (its : List Int) : mixI f 0 its = its := by unfold mixI; simp
theorem mixI_all (f : Int → Int) (its : List Int) : mixI f its.length its = its.map f := by unfold mixI; simp
theorem mixI_len (f : Int → Int) (k : Nat) (its : List Int) : (mixI f k its).length = its.length := by
  unfold mixI
  rw [List.length_append, List.length_map, List.length_take, List.length_drop]
  omega
theorem mix_get {α : Type} {f : α → α} {k : Nat} {l : List α} (h : k < l.length) : ((l.take k).map f ++ l.drop k)[k]? = l[k]? := by
  rw [List.getElem?_append_right (by simp; omega), List.getElem?_drop]
  simp
  congr 1
  omega
theorem mix_set {α : Type} {f : α → α} {k : Nat} {l : List α} {x : α} (h : l[k]? = some x) : ((l.take k).map f ++ l.drop k).set k (f x) = (l.take (k + 1)).map f ++ l.drop (k + 1) := by
  have hk := (List.getElem?_eq_some_iff.1 h).1
  rw [List.set_append_right _ _ (by simp; omega)]
  have e : k - (List.map f (List.take k l)).length = 0 := by simp; omega
  rw [e, List.drop_eq_getElem_cons hk, List.set_cons_zero, List.take_add_one, h]
  simp
theorem set_same {α : Type} {l : List α} {k : Nat} {x : α} (h : l[k]? = some x) : l.set k x = l := by
  obtain ⟨hk, rfl⟩ := List.getElem?_eq_some_iff.1 h
  exact List.set_getElem_self hk
end Go.Core
namespace Go.Proofs.YtahjbnfbilkbcaaGreatDoor
open Go.AX Go.RowKit Go.Core
set_option maxRecDepth 20000

/-- The first i cells are changed. -/
def mxP (F : CellP → CellP) (i : Nat) (m : List CellP) : List CellP := (m.take i).map F ++ m.drop i
theorem mxP_zero (F : CellP → CellP) (m : List CellP) : mxP F 0 m = m := by unfold mxP; simp
theorem mxP_all (F : CellP → CellP) (m : List CellP) : mxP F m.length m = m.map F := by unfold mxP; simp
theorem mxP_len (F : CellP → CellP) (i : Nat) (m : List CellP) : (mxP F i m).length = m.length := by
  unfold mxP
  rw [List.length_append, List.length_map, List.length_take, List.length_drop]
  omega
theorem mxP_grC {F : CellP → CellP} (hF : ∀ p, cellC (F p) = cellC p) (i : Nat) (m : List CellP) : grC (mxP F i m) = grC m := by
  have h : grC ((m.take i).map F) = grC (m.take i) := by
    unfold grC
    rw [List.flatMap_map]
    congr 1
    funext p
    exact hF p
  calc grC (mxP F i m) = grC ((m.take i).map F) ++ grC (m.drop i) := by unfold mxP grC; rw [List.flatMap_append]
    _ = grC (m.take i) ++ grC (m.drop i) := by rw [h]
    _ = grC m := by unfold grC; rw [← List.flatMap_append, List.take_append_drop]
/-- The rows of the other cells. -/
def restG (m : List CellP) (i : Nat) : List RowD := rowsG (m.take i) ++ rowsG (m.drop (i + 1))
def rowsN (p : CellP) : List RowD := match p.na with | some ad => [⟨9, 1, p.c.names.length, strC p.c.names, ad.block, p.nc⟩] | none => []
theorem rowsG_at {m : List CellP} {i : Nat} (h : i < m.length) (q : CellP) : (rowsG (m.set i q)).Perm (rowsP q ++ restG m i) := by
  have e : rowsG (m.set i q) = rowsG (m.take i) ++ (rowsP q ++ rowsG (m.drop (i + 1))) := by
    rw [List.set_eq_take_append_cons_drop, if_pos h]
    unfold rowsG
    rw [List.flatMap_append, List.flatMap_cons]
  rw [e]
  unfold restG
  rw [← List.append_assoc, ← List.append_assoc]
  exact List.Perm.append_right _ List.perm_append_comm
theorem rowsG_items {m : List CellP} {i : Nat} (h : i < m.length) {q : CellP} {ad : Addr} (hq : q.ia = some ad) : (rowsG (m.set i q)).Perm (⟨3, 1, q.c.items.length, iC q.c.items, ad.block, q.ic⟩ :: (rowsN q ++ restG m i)) := by
  refine (rowsG_at h q).trans ?_
  have e : rowsP q = rowsN q ++ [⟨3, 1, q.c.items.length, iC q.c.items, ad.block, q.ic⟩] := by unfold rowsP rowsN; rw [hq]; rfl
  rw [e, List.append_assoc]
  exact List.perm_middle
theorem setI_cell {p : CellP} {its : List Int} (h : its.length = p.c.items.length) : cellC (setI p its p.ia p.ic) = cellC p := by
  unfold cellC setI
  rw [h]
/-- In arrays b stands for a. -/
def putP (a b : Int) (p : CellP) : CellP := setI p (putFor a b p.c).items p.ia p.ic
theorem putP_c (a b : Int) (p : CellP) : (putP a b p).c = putFor a b p.c := by
  unfold putP setI putFor
  split <;> rfl
theorem putP_len (a b : Int) (p : CellP) : (putFor a b p.c).items.length = p.c.items.length := by
  unfold putFor
  split
  · simp
  · rfl
theorem putP_cell (a b : Int) (p : CellP) : cellC (putP a b p) = cellC p := setI_cell (putP_len a b p)
theorem putP_map (a b : Int) (m : List CellP) : (m.map (putP a b)).map (·.c) = (m.map (·.c)).map (putFor a b) := by
  rw [List.map_map, List.map_map]
  exact List.map_congr_left fun p _ => putP_c a b p
theorem setI_ok {p : CellP} (h : CellOk p) {its : List Int} (hl : its.length = p.c.items.length) : CellOk (setI p its p.ia p.ic) :=
  ⟨h.na, fun e => List.eq_nil_of_length_eq_zero (by show its.length = 0; rw [hl, h.ia e]; rfl), h.nl, by show its.length ≤ _; rw [hl]; exact h.il, h.nw, h.tl, h.nb, by show its.length ≤ p.ic; rw [hl]; exact h.ib⟩
theorem setI_own {p : CellP} (h : OwnP p) (its : List Int) : OwnP (setI p its p.ia p.ic) := ⟨h.na, h.ia⟩
/-- A cell's items, as they lie among the rows. -/
theorem famF_cell {m : List CellP} {i : Nat} (h : i < m.length) {q : CellP} (ho : CellOk q) (hw : OwnP q) {w : World} (hf : famF (rowsG (m.set i q)) w) : CellF q w :=
  cellF_rows ho hw fun r hr => hf.2 r ((rowsG_at h q).mem_iff.2 (List.mem_append.2 (.inl hr)))
theorem setI_self (p : CellP) : setI p p.c.items p.ia p.ic = p := rfl
end Go.Proofs.YtahjbnfbilkbcaaGreatDoor

/-
  AX, fifty-third text: maps with numbers as keys, as lists of pairs: asked, written.
-/
namespace Go.AX

def seek {α : Type} [DecidableEq α] (k : α) : List (α × Value) → Nat → Option (Nat × Value)
  | [], _ => none
  | (q, v) :: R, i => if k = q then some (i, v) else seek k R (i + 1)
def upd {α : Type} [DecidableEq α] (k : α) (v : Value) : List (α × Value) → List (α × Value)
  | [] => [(k, v)]
  | (q, x) :: R => if k = q then (q, v) :: R else (q, x) :: upd k v R
theorem look_upd {α : Type} [DecidableEq α] (k j : α) (v : Value) : ∀ R : List (α × Value), (upd k v R).lookup j = if j = k then some v else R.lookup j
  | [] => by
    unfold upd
    rw [List.lookup_cons]
    by_cases h : j = k
    · subst h; simp
    · rw [if_neg h, show (j == k) = false by simp [h]]
  | (q, x) :: R => by
    unfold upd
    have ih := look_upd k j v R
    by_cases h : k = q
    · subst h
      rw [if_pos rfl, List.lookup_cons, List.lookup_cons]
      by_cases h2 : j = k
      · subst h2; simp
      · rw [if_neg h2, show (j == k) = false by simp [h2]]
    · rw [if_neg h, List.lookup_cons, List.lookup_cons, ih]
      by_cases h2 : j = q
      · subst h2
        rw [beq_self_eq_true]
        simp only
        rw [if_neg (fun e => h e.symm)]
      · rw [show (j == q) = false by simp [h2]]
theorem seek_ge {α : Type} [DecidableEq α] (k : α) : ∀ (R : List (α × Value)) (i j : Nat) (v : Value), seek k R i = some (j, v) → i ≤ j
  | [], _, _, _, h => by cases h
  | (q, x) :: R, i, j, v, h => by
    unfold seek at h
    split at h
    · cases h; exact Nat.le_refl _
    · have := seek_ge k R (i + 1) j v h; omega
/-- What a map holds; its keys are told by enc. -/
def KeysAre {α : Type} (enc : α → Value) (es : List MapEntry) (R : List (α × Value)) : Prop := es.map (fun e => (e.key, e.val)) = R.map fun r => (enc r.1, r.2)
section
variable {α : Type} [DecidableEq α] {enc : α → Value}
theorem KeysAre.put {k : α} {v : Value} {born : Nat} : ∀ {es : List MapEntry} {R : List (α × Value)} {i : Nat}, KeysAre enc es R → seek k R i = none → KeysAre enc (es ++ [{ key := enc k, val := v, born := born }]) (upd k v R)
  | [], [], _, _, _ => rfl
  | [], _ :: _, _, h, _ => by cases h
  | _ :: _, [], _, h, _ => by cases h
  | e :: es, (q, x) :: R, i, h, hs => by
    unfold KeysAre at h
    simp only [List.map_cons, List.cons.injEq] at h
    unfold seek at hs
    split at hs
    · cases hs
    · rename_i hk
      have ih := KeysAre.put (v := v) (born := born) (es := es) (R := R) h.2 hs
      unfold upd
      rw [if_neg hk]
      unfold KeysAre at ih ⊢
      rw [List.cons_append, List.map_cons, List.map_cons, ih, h.1]
theorem KeysAre.set {k : α} {v : Value} : ∀ {es : List MapEntry} {R : List (α × Value)} {i j : Nat} {x : Value}, KeysAre enc es R → seek k R i = some (i + j, x) → KeysAre enc (es.modify j fun e => { e with key := enc k, val := v }) (upd k v R) ∧ ∃ e, es[j]? = some e ∧ e.key = enc k
  | [], [], _, _, _, _, hs => by cases hs
  | [], _ :: _, _, _, _, h, _ => by cases h
  | _ :: _, [], _, _, _, h, _ => by cases h
  | e :: es, (q, y) :: R, i, j, x, h, hs => by
    unfold KeysAre at h
    simp only [List.map_cons, List.cons.injEq] at h
    unfold seek at hs
    unfold upd
    split at hs
    · rename_i hk
      subst hk
      simp only [Option.some.injEq, Prod.mk.injEq] at hs
      obtain rfl : j = 0 := by omega
      rw [if_pos rfl]
      refine ⟨?_, e, rfl, congrArg Prod.fst h.1⟩
      unfold KeysAre
      show _ :: List.map _ es = _ :: _
      rw [h.2]
    · rename_i hk
      have hge := seek_ge k R (i + 1) (i + j) x hs
      obtain ⟨j, rfl⟩ : ∃ j2, j = j2 + 1 := ⟨j - 1, by omega⟩
      obtain ⟨h1, e2, h2, h3⟩ := KeysAre.set (v := v) (es := es) (R := R) (i := i + 1) (j := j) (x := x) h.2 (by rw [hs]; congr 2; omega)
      rw [if_neg hk]
      refine ⟨?_, e2, h2, h3⟩
      unfold KeysAre at h1 ⊢
      rw [show List.modify (e :: es) (j + 1) (fun e => { e with key := enc k, val := v }) = e :: List.modify es j (fun e => { e with key := enc k, val := v }) from rfl, List.map_cons, List.map_cons, h1, h.1]
end
section
variable {P : Program} {o : Oper} {s : List AV} {H : List Ent} {t kt et : TypeId} {m k : Operand} {b c : Nat} {es : Array MapEntry} {α : Type} [DecidableEq α] {enc : α → Value} {p : α}
end
end Go.AX

/-
  Contract: what is reached (program).
-/
namespace Go.Core
def seenI (L : List Int) : List (Int × Value) := L.map fun i => (i, .bool true)
end Go.Core
namespace Go.Proofs.YtahjbnfbilkbcaaGreatDoor
open Go.AX Go.RowKit Go.Core
set_option maxRecDepth 20000

structure WSt where
  es : Array MapEntry
  c : Nat
  o : BSt
def WSt.ok (L : List Int) (st : WSt) : Prop := KeysAre (fun k : Int => .int .i64 k) st.es.toList (seenI L) ∧ st.o.ok L.length
end Go.Proofs.YtahjbnfbilkbcaaGreatDoor

/-
  Contracts: what a list has; what a cell's text begins and ends with (document).
-/
namespace Go.Core
end Go.Core
namespace Go.Proofs.YtahjbnfbilkbcaaGreatDoor
open Go.AX Go.RowKit Go.Core Go.Scan
set_option maxRecDepth 20000

end Go.Proofs.YtahjbnfbilkbcaaGreatDoor

/-
  Contract: strings.NewReplacer: a struct at a known address that holds the texts.
-/
namespace Go.Proofs.YtahjbnfbilkbcaaGreatDoor
open Go.AX Go.RowKit
set_option maxRecDepth 20000

end Go.Proofs.YtahjbnfbilkbcaaGreatDoor

/-
  Contract: (*strings.byteStringReplacer).Replace: each byte replaced by what the table holds.
-/
namespace Go.Proofs.YtahjbnfbilkbcaaGreatDoor
open Go.AX Go.RowKit
set_option maxRecDepth 20000

end Go.Proofs.YtahjbnfbilkbcaaGreatDoor

/-
  sync.Once, one goroutine: the parts of its slow road, after the kit's worked LazyParts.
-/
namespace Go.Proofs.YtahjbnfbilkbcaaGreatDoor
set_option maxRecDepth 100000
set_option maxHeartbeats 1600000

end Go.Proofs.YtahjbnfbilkbcaaGreatDoor

/-
  sync.Once, one goroutine: Do, not yet done and its lock free, of a function by its contract; Do, done already.
-/
namespace Go.Proofs.YtahjbnfbilkbcaaGreatDoor
set_option maxRecDepth 100000
set_option maxHeartbeats 3200000

end Go.Proofs.YtahjbnfbilkbcaaGreatDoor

/-
  Contract: Quote of the document.
-/
namespace Go.Proofs.YtahjbnfbilkbcaaGreatDoor
open Go.AX Go.RowKit Go.Scan
set_option maxRecDepth 20000

/-- A byte as the language writes it. -/
def qt (c : UInt8) : List UInt8 := if c == 92 then [92, 92] else if c == 34 then [92, 34] else if c == 35 then [92, 35] else if c == 10 then [92, 110] else if c == 0 then [92, 48] else [c]
end Go.Proofs.YtahjbnfbilkbcaaGreatDoor

/-
  The table of bytes that are replaced, as it is filled.
-/
namespace Go.Proofs.YtahjbnfbilkbcaaGreatDoor
open Go.AX Go.RowKit
set_option maxRecDepth 20000

end Go.Proofs.YtahjbnfbilkbcaaGreatDoor

/-
  Contract: (*strings.Replacer).Replace, for the first time: the bytes that Quote replaces.
-/
namespace Go.Proofs.YtahjbnfbilkbcaaGreatDoor
open Go.AX Go.RowKit
set_option maxRecDepth 20000

end Go.Proofs.YtahjbnfbilkbcaaGreatDoor

/-
  Contract: Quote (program).
-/
namespace Go.Proofs.YtahjbnfbilkbcaaGreatDoor
open Go.AX Go.RowKit Go.Scan
set_option maxRecDepth 20000

end Go.Proofs.YtahjbnfbilkbcaaGreatDoor

/-
  Contract: the writer writes a cell (program).
-/
namespace Go.AX
/-- min(x, y) -/
theorem BlindW.min2 {P : Program} {o : Oper} {s : List AV} {K : AV → Prop} {x y : Operand} {args : Array Operand} {ts : Array TypeId} {a b : Int} (ho : o.op = .call { callee := .builtin .min, args := args, argTypes := ts }) (ha : args = #[x, y])
    (hx : opv s x = .c (.v (.int .i64 a))) (hy : opv s y = .c (.v (.int .i64 b))) (hk : K (.c (.v (.int .i64 (minI a b))))) : ∃ x, BlindW P o s K x := by
  subst ha
  refine ⟨.int .i64 (minI a b), ?_, fun w => execOp_blt ho fun consts => ?_, hk⟩
  · rw [ho]
    show allPlain s [x, y] = true
    simp [allPlain, hx, hy]
  · have e1 : plainEv s x = .int .i64 a := by unfold plainEv; rw [hx]
    have e2 : plainEv s y = .int .i64 b := by unfold plainEv; rw [hy]
    simp [builtin, Builtin.min_, Builtin.min2, e1, e2, minI]
end Go.AX
namespace Go.Proofs.YtahjbnfbilkbcaaGreatDoor
open Go.AX Go.RowKit Go.Core Go.Scan
set_option maxRecDepth 20000

def gF (a : Option Addr) (l : List CellP) (E : World → Prop) : World → Prop := fun w => GrF a l w ∧ E w
/-- What the writer holds when a text was written. -/
def wR (gv : Value) (F : World → Prop) (way : List Int) (out : List UInt8) : Out → List Ent → Prop :=
  RetG (ι := BSt × BSt) (fun x => x.1.ok out.length ∧ x.2.ok way.length) (fun _ => .tuple #[]) fun x => wH gv F true out x.1 way x.2
theorem FormatBool_c (b : Bool) (s : List UInt8) (hs : Lib.formatBool b = s) : ∀ H, SpecH Tryz.prog 96 (pvs [.bool b]) H (Ret (.string (bs s)) H) := fun H =>
  SpecH.rawP (R := fun r => r = .string (bs s)) (callOk Tryz.func96 (by kernel_rfl) rfl) (fun w _ => (Tryz.strconv_FormatBool b w).mono fun e w' ⟨he, hw⟩ => by
    subst hw hs
    exact ⟨_, he, rfl, Below.refl _ _⟩) fun r hr => by subst hr; exact ⟨rfl, rfl⟩
set_option maxHeartbeats 8000000 in
theorem write_t {a : Option Addr} (ca : Nat) {l : List CellP} {E : World → Prop} {qt : List UInt8 → List UInt8} {it : Int → List UInt8} (V : WEnv a l E qt it) (n : Nat) : n ≤ 600 → ∀ (out : List UInt8) (way : List Int) (i j : BSt) (u : Nat), i.ok out.length → j.ok way.length → u < l.length → way.Nodup → (∀ x ∈ way, 0 ≤ x ∧ x < (l.length : Int)) → l.length + 2 ≤ n + way.length → out.length ≤ 1000000000000 →
    SpecH Tryz.prog 51 [.c (.lp 0 0), .c (.v (.int .i64 (u : Int)))] (wH (.slice a l.length ca) (gF a l E) true out i way j) (wR (.slice a l.length ca) (gF a l E) way (writeS 20000 (leafS qt it) (l.map (·.c)) n out way u)) := by
  induction n with
  | zero =>
    intro _ out way i j u _ _ _ hw hr hf _
    have := way_le hw hr
    omega
  | succ m ih =>
    intro hn out way i j u hi hj hu hw hr hf ho
    by_cases hM : 20000 < out.length
    · rw [write_same _ _ _ _ hM]
      refine ownC hm Tryz.func51 (by kernel_rfl) rfl rfl (fun _ _ => wH_ok _ _ _ _ _ _ _) (fun _ _ => Nat.le_refl _) ?_
      (first | refine wX ?_ | exact wZ)
      refine callG (Len_w _ _ way j true out i) [0, 1, 2, 3] rfl ⟨rfl, rfl, rfl, rfl, trivial⟩ rfl fun _ _ => ?_
      (first | refine wX ?_ | exact wZ)
      refine brd_dec (fun _ => ?_) (fun h => absurd (show (out.length : Int) > 20000 by omega) h)
      (first | refine wX ?_ | exact wZ)
      exact ⟨(i, j), ⟨hi, hj⟩, rfl, wkH_refl _⟩
    obtain ⟨p, hp⟩ : ∃ p, l[u]? = some p := ⟨_, List.getElem?_eq_getElem hu⟩
    have hpm := List.mem_of_getElem? hp
    have hsa : a.isSome = true := by
      have := V.ha
      cases a with
      | none => rw [this rfl] at hp; cases hp
      | some b => rfl
    have hat : at_ (l.map (·.c)) (u : Int) = p.c := at_map hp
    have hcd : cellD l.length p.c = true := by
      have := V.val.2.1 p.c (List.mem_map.2 ⟨p, hpm, rfl⟩)
      simpa using this
    have hpo := V.ok p hpm
    have hps := V.sm.2 p hpm
    have hsml := V.sm.1
    have hq4 := V.q p hpm
    have hit := V.i p hpm
    have hql := V.ql
    have hil3 := V.il
    have hsh := V.short
    have htx := cellD_text hcd
    have hk := cellD_kind hcd
    have hwl := way_le hw hr
    obtain ⟨⟨kind, num, text, names, items⟩, na, nc, ia, ic⟩ := p
    simp only at hat hcd hps hq4 hit hk htx
    have hkk : kind = 0 ∨ kind = 1 ∨ kind = 2 ∨ kind = 3 ∨ kind = 4 ∨ kind = 5 ∨ kind = 6 ∨ kind = 7 ∨ kind = 8 := by omega
    rcases hkk with rfl | rfl | rfl | rfl | rfl | rfl | rfl | rfl | rfl
    · -- [110, 105, 108]: the text of the leaf, 0: the kind
      have hwr : writeS 20000 (leafS qt it) (l.map (·.c)) (m + 1) out way u = out ++ ([110, 105, 108]) := by
        unfold writeS
        rw [if_neg hM, hat, if_pos (show isLeaf (Cell.mk 0 num text names items) = true from rfl)]
        rfl
      rw [hwr]
      -- 0: the kind
      refine ownC hm Tryz.func51 (by kernel_rfl) rfl rfl (fun _ _ => wH_ok _ _ _ _ _ _ _) (fun _ _ => Nat.le_refl _) ?_
      (first | refine wX ?_ | exact wZ)
      refine callG (Len_w _ _ way j true out i) [0, 1, 2, 3] rfl ⟨rfl, rfl, rfl, rfl, trivial⟩ rfl fun _ _ => ?_
      (first | refine wX ?_ | exact wZ)
      refine brd_dec (fun h => absurd h (by omega)) (fun _ => ?_)
      (first | refine wX ?_ | exact wZ)
      refine Nd.mk ⟨hsa, by omega, by omega⟩ ?_
      (first | refine wX ?_ | exact wZ)
      refine LdN.agg [.int .i64 0, .int .i64 num, .string (bs text), .slice na names.length nc, .slice ia items.length ic] rfl (fun w hw => hw.2.2.1.1.1) rfl (fun k hk => by rw [Int.toNat_natCast]; exact grC_get l u k hk hp) ?_
      (first | refine wXD ?_ | exact wZD)
      -- [110, 105, 108]: the text of the leaf
      refine callG (WriteString_w _ _ way j true out ([110, 105, 108]) i hi (by first | omega | (simp; omega))) [0, 1, 2, 3] rfl ⟨rfl, rfl, rfl, rfl, trivial⟩ rfl fun i2 hi2 => ?_
      (first | refine wX ?_ | exact wZ)
      exact ⟨(i2, j), ⟨hi2, hj⟩, rfl, by (repeat' (first | exact trivial | exact wkE_refl _ | refine And.intro ?_ ?_))⟩
    · -- [116, 114, 117, 101]: the text of the leaf, 1: the kind
      have hwr : writeS 20000 (leafS qt it) (l.map (·.c)) (m + 1) out way u = out ++ ([116, 114, 117, 101]) := by
        unfold writeS
        rw [if_neg hM, hat, if_pos (show isLeaf (Cell.mk 1 num text names items) = true from rfl)]
        rfl
      rw [hwr]
      -- 1: the kind
      refine ownC hm Tryz.func51 (by kernel_rfl) rfl rfl (fun _ _ => wH_ok _ _ _ _ _ _ _) (fun _ _ => Nat.le_refl _) ?_
      (first | refine wX ?_ | exact wZ)
      refine callG (Len_w _ _ way j true out i) [0, 1, 2, 3] rfl ⟨rfl, rfl, rfl, rfl, trivial⟩ rfl fun _ _ => ?_
      (first | refine wX ?_ | exact wZ)
      refine brd_dec (fun h => absurd h (by omega)) (fun _ => ?_)
      (first | refine wX ?_ | exact wZ)
      refine Nd.mk ⟨hsa, by omega, by omega⟩ ?_
      (first | refine wX ?_ | exact wZ)
      refine LdN.agg [.int .i64 1, .int .i64 num, .string (bs text), .slice na names.length nc, .slice ia items.length ic] rfl (fun w hw => hw.2.2.1.1.1) rfl (fun k hk => by rw [Int.toNat_natCast]; exact grC_get l u k hk hp) ?_
      (first | refine wXD ?_ | exact wZD)
      -- true: which, [116, 114, 117, 101]: the text
      refine DrawN.planQ [0, 3] [1, 2, 4, 5, 6] [(7, 0)] (by decide +kernel) ?_
      (first | refine wX ?_ | exact wZ)
      refine callQ (FormatBool_c true ([116, 114, 117, 101]) (by decide) _) ?_
      (first | refine wX ?_ | exact wZ)
      -- [116, 114, 117, 101]: the text of the leaf
      refine callG (WriteString_w _ _ way j true out ([116, 114, 117, 101]) i hi (by first | omega | (simp; omega))) [0, 1, 2, 3] rfl ⟨rfl, rfl, rfl, rfl, trivial⟩ rfl fun i2 hi2 => ?_
      (first | refine wX ?_ | exact wZ)
      exact ⟨(i2, j), ⟨hi2, hj⟩, rfl, by (repeat' (first | exact trivial | exact wkE_refl _ | refine And.intro ?_ ?_))⟩
    · -- [102, 97, 108, 115, 101]: the text of the leaf, 2: the kind
      have hwr : writeS 20000 (leafS qt it) (l.map (·.c)) (m + 1) out way u = out ++ ([102, 97, 108, 115, 101]) := by
        unfold writeS
        rw [if_neg hM, hat, if_pos (show isLeaf (Cell.mk 2 num text names items) = true from rfl)]
        rfl
      rw [hwr]
      -- 2: the kind
      refine ownC hm Tryz.func51 (by kernel_rfl) rfl rfl (fun _ _ => wH_ok _ _ _ _ _ _ _) (fun _ _ => Nat.le_refl _) ?_
      (first | refine wX ?_ | exact wZ)
      refine callG (Len_w _ _ way j true out i) [0, 1, 2, 3] rfl ⟨rfl, rfl, rfl, rfl, trivial⟩ rfl fun _ _ => ?_
      (first | refine wX ?_ | exact wZ)
      refine brd_dec (fun h => absurd h (by omega)) (fun _ => ?_)
      (first | refine wX ?_ | exact wZ)
      refine Nd.mk ⟨hsa, by omega, by omega⟩ ?_
      (first | refine wX ?_ | exact wZ)
      refine LdN.agg [.int .i64 2, .int .i64 num, .string (bs text), .slice na names.length nc, .slice ia items.length ic] rfl (fun w hw => hw.2.2.1.1.1) rfl (fun k hk => by rw [Int.toNat_natCast]; exact grC_get l u k hk hp) ?_
      (first | refine wXD ?_ | exact wZD)
      -- false: which, [102, 97, 108, 115, 101]: the text
      refine DrawN.planQ [0, 3] [1, 2, 4, 5, 6] [(7, 0)] (by decide +kernel) ?_
      (first | refine wX ?_ | exact wZ)
      refine callQ (FormatBool_c false ([102, 97, 108, 115, 101]) (by decide) _) ?_
      (first | refine wX ?_ | exact wZ)
      -- [102, 97, 108, 115, 101]: the text of the leaf
      refine callG (WriteString_w _ _ way j true out ([102, 97, 108, 115, 101]) i hi (by first | omega | (simp; omega))) [0, 1, 2, 3] rfl ⟨rfl, rfl, rfl, rfl, trivial⟩ rfl fun i2 hi2 => ?_
      (first | refine wX ?_ | exact wZ)
      exact ⟨(i2, j), ⟨hi2, hj⟩, rfl, by (repeat' (first | exact trivial | exact wkE_refl _ | refine And.intro ?_ ?_))⟩
    · -- it num: the text of the leaf, 3: the kind
      have hwr : writeS 20000 (leafS qt it) (l.map (·.c)) (m + 1) out way u = out ++ (it num) := by
        unfold writeS
        rw [if_neg hM, hat, if_pos (show isLeaf (Cell.mk 3 num text names items) = true from rfl)]
        rfl
      rw [hwr]
      -- 3: the kind
      refine ownC hm Tryz.func51 (by kernel_rfl) rfl rfl (fun _ _ => wH_ok _ _ _ _ _ _ _) (fun _ _ => Nat.le_refl _) ?_
      (first | refine wX ?_ | exact wZ)
      refine callG (Len_w _ _ way j true out i) [0, 1, 2, 3] rfl ⟨rfl, rfl, rfl, rfl, trivial⟩ rfl fun _ _ => ?_
      (first | refine wX ?_ | exact wZ)
      refine brd_dec (fun h => absurd h (by omega)) (fun _ => ?_)
      (first | refine wX ?_ | exact wZ)
      refine Nd.mk ⟨hsa, by omega, by omega⟩ ?_
      (first | refine wX ?_ | exact wZ)
      refine LdN.agg [.int .i64 3, .int .i64 num, .string (bs text), .slice na names.length nc, .slice ia items.length ic] rfl (fun w hw => hw.2.2.1.1.1) rfl (fun k hk => by rw [Int.toNat_natCast]; exact grC_get l u k hk hp) ?_
      (first | refine wXD ?_ | exact wZD)
      refine DrawN.planQ [0, 3] [1, 2, 4, 5] [(6, 0)] (by decide +kernel) ?_
      (first | refine wX ?_ | exact wZ)
      refine callQ (hit rfl _ (fun w hw => hw.2.2.1.2)) ?_
      (first | refine wX ?_ | exact wZ)
      have := hil3 num
      -- it num: the text of the leaf
      refine callG (WriteString_w _ _ way j true out (it num) i hi (by first | omega | (simp; omega))) [0, 1, 2, 3] rfl ⟨rfl, rfl, rfl, rfl, trivial⟩ rfl fun i2 hi2 => ?_
      (first | refine wX ?_ | exact wZ)
      exact ⟨(i2, j), ⟨hi2, hj⟩, rfl, by (repeat' (first | exact trivial | exact wkE_refl _ | refine And.intro ?_ ?_))⟩
    · -- [34] ++ qt text ++ [34]: the text of the leaf, 4: the kind
      have hwr : writeS 20000 (leafS qt it) (l.map (·.c)) (m + 1) out way u = out ++ ([34] ++ qt text ++ [34]) := by
        unfold writeS
        rw [if_neg hM, hat, if_pos (show isLeaf (Cell.mk 4 num text names items) = true from rfl)]
        rfl
      rw [hwr]
      -- 4: the kind
      refine ownC hm Tryz.func51 (by kernel_rfl) rfl rfl (fun _ _ => wH_ok _ _ _ _ _ _ _) (fun _ _ => Nat.le_refl _) ?_
      (first | refine wX ?_ | exact wZ)
      refine callG (Len_w _ _ way j true out i) [0, 1, 2, 3] rfl ⟨rfl, rfl, rfl, rfl, trivial⟩ rfl fun _ _ => ?_
      (first | refine wX ?_ | exact wZ)
      refine brd_dec (fun h => absurd h (by omega)) (fun _ => ?_)
      (first | refine wX ?_ | exact wZ)
      refine Nd.mk ⟨hsa, by omega, by omega⟩ ?_
      (first | refine wX ?_ | exact wZ)
      refine LdN.agg [.int .i64 4, .int .i64 num, .string (bs text), .slice na names.length nc, .slice ia items.length ic] rfl (fun w hw => hw.2.2.1.1.1) rfl (fun k hk => by rw [Int.toNat_natCast]; exact grC_get l u k hk hp) ?_
      (first | refine wXD ?_ | exact wZD)
      refine DrawN.planQ [0, 3] [1, 2, 4, 5, 6, 7] [(8, 0)] (by decide +kernel) ?_
      (first | refine wX ?_ | exact wZ)
      refine callQ (hq4 rfl _) ?_
      (first | refine wX ?_ | exact wZ)
      have hq1 := hql text
      refine Nd.mk (by show 1 + (bs (qt text)).size < _; rw [bs_size]; omega) ?_
      (first | refine wX ?_ | exact wZ)
      rw [show (({ data := #[34] } : ByteArray) ++ bs (qt text)) = bs ([34] ++ qt text) by rw [← bs_app]; rfl]
      refine Nd.mk (by show (bs ([34] ++ qt text)).size + 1 < _; rw [bs_size]; simp; omega) ?_
      rw [show (bs ([34] ++ qt text) ++ ({ data := #[34] } : ByteArray)) = bs ([34] ++ qt text ++ [34]) by rw [← bs_app]; rfl]
      (first | refine wX ?_ | exact wZ)
      -- [34] ++ qt text ++ [34]: the text of the leaf
      refine callG (WriteString_w _ _ way j true out ([34] ++ qt text ++ [34]) i hi (by first | omega | (simp; omega))) [0, 1, 2, 3] rfl ⟨rfl, rfl, rfl, rfl, trivial⟩ rfl fun i2 hi2 => ?_
      (first | refine wX ?_ | exact wZ)
      exact ⟨(i2, j), ⟨hi2, hj⟩, rfl, by (repeat' (first | exact trivial | exact wkE_refl _ | refine And.intro ?_ ?_))⟩
    · -- [58] ++ text: the text of the leaf, 5: the kind
      have hwr : writeS 20000 (leafS qt it) (l.map (·.c)) (m + 1) out way u = out ++ ([58] ++ text) := by
        unfold writeS
        rw [if_neg hM, hat, if_pos (show isLeaf (Cell.mk 5 num text names items) = true from rfl)]
        rfl
      rw [hwr]
      -- 5: the kind
      refine ownC hm Tryz.func51 (by kernel_rfl) rfl rfl (fun _ _ => wH_ok _ _ _ _ _ _ _) (fun _ _ => Nat.le_refl _) ?_
      (first | refine wX ?_ | exact wZ)
      refine callG (Len_w _ _ way j true out i) [0, 1, 2, 3] rfl ⟨rfl, rfl, rfl, rfl, trivial⟩ rfl fun _ _ => ?_
      (first | refine wX ?_ | exact wZ)
      refine brd_dec (fun h => absurd h (by omega)) (fun _ => ?_)
      (first | refine wX ?_ | exact wZ)
      refine Nd.mk ⟨hsa, by omega, by omega⟩ ?_
      (first | refine wX ?_ | exact wZ)
      refine LdN.agg [.int .i64 5, .int .i64 num, .string (bs text), .slice na names.length nc, .slice ia items.length ic] rfl (fun w hw => hw.2.2.1.1.1) rfl (fun k hk => by rw [Int.toNat_natCast]; exact grC_get l u k hk hp) ?_
      (first | refine wXD ?_ | exact wZD)
      refine DrawN.planQ [0, 3] [1, 2, 4, 5] [(6, 0)] (by decide +kernel) ?_
      (first | refine wX ?_ | exact wZ)
      refine Nd.mk (by show 1 + (bs text).size < _; rw [bs_size]; omega) ?_
      rw [show (({ data := #[58] } : ByteArray) ++ bs text) = bs ([58] ++ text) by rw [← bs_app]; rfl]
      (first | refine wX ?_ | exact wZ)
      -- [58] ++ text: the text of the leaf
      refine callG (WriteString_w _ _ way j true out ([58] ++ text) i hi (by first | omega | (simp; omega))) [0, 1, 2, 3] rfl ⟨rfl, rfl, rfl, rfl, trivial⟩ rfl fun i2 hi2 => ?_
      (first | refine wX ?_ | exact wZ)
      exact ⟨(i2, j), ⟨hi2, hj⟩, rfl, by (repeat' (first | exact trivial | exact wkE_refl _ | refine And.intro ?_ ?_))⟩
    · -- 6: the kind
      rw [writeS_in hM hat (fun h => absurd (of_decide_eq_true h) (by show ¬ (6 : Int) ≤ 5; decide))]
      -- 6: the kind
      refine ownC hm Tryz.func51 (by kernel_rfl) rfl rfl (fun _ _ => wH_ok _ _ _ _ _ _ _) (fun _ _ => Nat.le_refl _) ?_
      (first | refine wX ?_ | exact wZ)
      refine callG (Len_w _ _ way j true out i) [0, 1, 2, 3] rfl ⟨rfl, rfl, rfl, rfl, trivial⟩ rfl fun _ _ => ?_
      (first | refine wX ?_ | exact wZ)
      refine brd_dec (fun h => absurd h (by omega)) (fun _ => ?_)
      (first | refine wX ?_ | exact wZ)
      refine Nd.mk ⟨hsa, by omega, by omega⟩ ?_
      (first | refine wX ?_ | exact wZ)
      refine LdN.agg [.int .i64 6, .int .i64 num, .string (bs text), .slice na names.length nc, .slice ia items.length ic] rfl (fun w hw => hw.2.2.1.1.1) rfl (fun k hk => by rw [Int.toNat_natCast]; exact grC_get l u k hk hp) ?_
      (first | refine wXD ?_ | exact wZD)
      refine spec_of_exec hm Tryz.func99 (by kernel_rfl) rfl rfl ?_
      (first | refine wXD ?_ | exact wZD)
      refine SpecH.args (args' := pvs [.slice (at0 j.ob) way.length j.cap, .int .i64 (u : Int)]) (by simp [pvs, opvs, opv, nth]; try rfl) ?_
      refine call1 (contains_c j.ob j.cap way u (fun h => List.eq_nil_of_length_eq_zero (hj.1 h).1) (by omega) _ (fun w hw => hw.2.1)) ?_
      (first | refine wXD ?_ | exact wZD)
      try refine Nd.mk ⟨Nat.le_refl 1, rfl, rfl⟩ ?_
      (conv => whnf)
      refine AppN.grow 2 (iC way) [.int .i64 (u : Int)] rfl rfl ⟨Nat.le_refl 1, ⟨by show (way.length + 1) * 8 ≤ _; omega, by omega⟩, Nat.one_ne_zero⟩ fun wb wc hwc _ => ?_
      obtain ⟨way2, hway2⟩ : ∃ w2, w2 = way ++ [(u : Int)] := ⟨_, rfl⟩
      have hcl : iC way ++ [.int .i64 (u : Int)] = iC way2 := by rw [hway2]; simp [iC]
      have hll : way.length + 1 = way2.length := by rw [hway2]; simp
      rw [hcl, hll]
      (first | refine wXD ?_ | exact wZD)
      -- out: what is there, [91]: what is written, i: the Builder's place, hi: its word, i2: the place behind
      refine callG (WriteString_w _ _ way2 ⟨some wb, wc⟩ true (out) ([91]) i hi (by first | omega | (simp; omega))) [0, 1, 2, 3] rfl ⟨rfl, rfl, rfl, rfl, trivial⟩ rfl fun i2 hi2 => ?_
      (first | refine wXD ?_ | exact wZD)
      -- [91]: front, [46, 46, 46]: mark, [93]: back
      cases hun : decide ((u : Int) ∈ way) with
      | true =>
        rw [if_pos (of_decide_eq_true hun)]
        (first | refine wXD ?_ | exact wZD)
        -- out ++ ([91]): what is there, [46, 46, 46]: what is written, i2: the Builder's place, hi2: its word, i3: the place behind
        refine callG (WriteString_w _ _ way2 ⟨some wb, wc⟩ true (out ++ ([91])) ([46, 46, 46]) i2 hi2 (by first | omega | (simp; omega))) [0, 1, 2, 3] rfl ⟨rfl, rfl, rfl, rfl, trivial⟩ rfl fun i3 hi3 => ?_
        (first | refine wXD ?_ | exact wZD)
        -- out ++ ([91]) ++ ([46, 46, 46]): what is there, [93]: what is written, i3: the Builder's place, hi3: its word, i4: the place behind
        refine callG (WriteString_w _ _ way2 ⟨some wb, wc⟩ true (out ++ ([91]) ++ ([46, 46, 46])) ([93]) i3 hi3 (by first | omega | (simp; omega))) [0, 1, 2, 3] rfl ⟨rfl, rfl, rfl, rfl, trivial⟩ rfl fun i4 hi4 => ?_
        (first | refine wXD ?_ | exact wZD)
        -- i4: the Builder's place
        refine DrawN.plan [0, 1, 5] [(2, 1), (3, 1), (4, 1), (6, 1), (7, 1), (8, 1), (9, 1), (10, 1), (11, 1), (12, 1), (13, 1)] [(14, 0)] (by decide +kernel) ?_
        (first | refine wXD ?_ | exact wZD)
        rw [show IntKind.i64.wrap ((way2.length : Int) - 1) = (way.length : Int) by rw [wrap_i64 (by omega)]; omega]
        refine ReadW.slc_hi rfl (by kernel_rfl) rfl rfl (by show (0 : Int) ≤ (way.length : Int) ∧ (way.length : Int) ≤ (wc : Int); omega) ?_
        rw [Int.toNat_natCast]
        (first | refine wXD ?_ | exact wZD)
        refine ⟨(i4, ⟨some wb, wc⟩), ⟨hi4, (fun h => by cases h), by show way.length ≤ wc; omega, fun h => by have : wc = 0 := h; omega⟩, rfl, ⟨rfl, rfl, rfl, rfl, rfl, trivial⟩, wkE_refl _, .inr (.inr ⟨rfl, rfl, ?_, rfl, by omega, rfl⟩), wkE_refl _, trivial⟩
        rw [hway2, Nat.mul_one]
        simp [iC]
      | false =>
      rw [if_neg (of_decide_eq_false hun)]
      (first | refine wXD ?_ | exact wZD)
      -- 6: the kind, [91]: the front
      rw [← hway2]
      have hnd2 : way2.Nodup := by
        rw [hway2]
        exact List.nodup_append.2 ⟨hw, by simp, fun x hx y hy => by
          rw [List.mem_singleton.1 hy]
          intro e
          subst e
          exact of_decide_eq_false hun hx⟩
      have hr2 : ∀ x ∈ way2, 0 ≤ x ∧ x < (l.length : Int) := fun x hx => by
        rw [hway2] at hx
        rcases List.mem_append.1 hx with hx | hx
        · exact hr x hx
        · rw [List.mem_singleton.1 hx]; omega
      obtain ⟨ff, hff⟩ : ∃ ff, ff = fun o k => writeS 20000 (leafS qt it) (l.map (·.c)) m o way2 k := ⟨_, rfl⟩
      rw [← hff]
      have hfx : ∀ o x, ff o x = writeS 20000 (leafS qt it) (l.map (·.c)) m o way2 x := fun o x => by rw [hff]
      have hpre : ∀ i, (preT (Cell.mk 6 num text names items) i).length ≤ 50 := fun i => by
        have := pre_le hsh (u : Int) i
        rw [hat] at this
        exact this
      have hfold : ∀ k, (foldT ff (preT (Cell.mk 6 num text names items)) 0 (items.take k) (out ++ ([91]))).length ≤ 130000000 := fun k => by
        have hfl : (out ++ ([91])).length ≤ out.length + 2002 := by simp; try omega
        have := foldT_len (M := 20000) (f := ff) (pre := preT (Cell.mk 6 num text names items)) (p := 50) (X := 20000 + m * 200000) hpre (by omega) (fun o k ho => by rw [hff]; exact write_same m o _ k ho) (fun o k ho => by rw [hff]; have := write_len (M := 20000) hsh m o way2 k; show (writeS _ _ _ _ _ _ _).length ≤ _; omega) (items.take k) 0 (out ++ ([91])) (22002 + m * 200000) (by omega) (by omega)
        rw [List.length_take] at this
        omega
      refine spec_of_exec hm Tryz.func122 (by kernel_rfl) rfl rfl ?_
      (first | refine wXD ?_ | exact wZD)
      -- 6: the kind, [91]: the front
      refine LoopN.intro (Nat × BSt × BSt) (fun ⟨k, i, j⟩ => k ≤ items.length ∧ i.ok (foldT ff (preT (Cell.mk 6 num text names items)) 0 (items.take k) (out ++ ([91]))).length ∧ j.ok way2.length) (fun ⟨k, _, _⟩ => mkS Tryz.f122.ntmps 0 [(0, .c (.lp 0 0)), (3, .c (.lp 7 0)), (7, .c (.v (.slice ia items.length ic))), (8, .c (.v (.int .i64 (items.length : Int)))), (9, .c (.v (.int .i64 (k : Int))))])
        (fun ⟨k, i, j⟩ => wH (.slice a l.length ca) (gF a l E) true (foldT ff (preT (Cell.mk 6 num text names items)) 0 (items.take k) (out ++ ([91]))) i way2 j ++ [.dead, .dead, .dead, .blk 42 [.v (.int .i64 6), .v (.int .i64 num), .v (.string (bs text)), .v (.slice na names.length nc), .v (.slice ia items.length ic)]]) (fun ⟨k, _, _⟩ => items.length - k) [] rfl (fun ⟨_, _, _⟩ => rfl) (fun ⟨_, _, _⟩ => rfl) (fun ⟨_, _, _⟩ _ => okHB_eq rfl) ?_ ?_
      · refine ⟨(0, i2, ⟨some wb, wc⟩), ⟨Nat.zero_le _, hi2, (fun h => by cases h), by show way2.length ≤ wc; omega, fun h => by have : wc = 0 := h; omega⟩, ?_, wkE_refl _, wkE_refl _, wkE_refl _, wkE_refl _, trivial, trivial, trivial, wkE_refl _, trivial⟩
        (repeat' (first | exact trivial | refine And.intro (by with_reducible rfl) ?_ | (with_reducible exact wkC_refl _) | (with_reducible exact wkCs_refl _) | refine And.intro ?_ ?_))
        all_goals rfl
      rintro ⟨k, i3, j3⟩ ⟨hk3, hi3, hj3⟩
      (first | refine wXD ?_ | exact wZD)
      refine brd_dec (fun h1 => ?_) (fun h1 => ?_)
      · obtain ⟨x, hx⟩ : ∃ x, items[k]? = some x := ⟨_, List.getElem?_eq_getElem (by omega)⟩
        have hxin := cellD_in hcd x (List.mem_of_getElem? hx)
        obtain ⟨xn, rfl⟩ : ∃ xn : Nat, x = (xn : Int) := ⟨x.toNat, by omega⟩
        have hx1 : xn < l.length := by omega
        have hsi : ia.isSome = true := by
          have := hpo.ia
          cases ia with
          | none =>
            have h0 : items = [] := this rfl
            rw [h0] at hx
            cases hx
          | some b => rfl
        (first | refine wXD ?_ | exact wZD)
        refine Nd.mk ⟨hsi, by omega, by omega⟩ ?_
        (first | refine wXD ?_ | exact wZD)
        refine LdN.one (.int .i64 (xn : Int)) rfl (fun w hw => (hw.2.2.1.1.2 _ hpm).2) (by rw [Int.toNat_natCast]; show (iC items)[k * 1]? = _; rw [Nat.mul_one]; exact iC_get hx) ?_
        (first | refine wXD ?_ | exact wZD)
        refine brd_dec (fun hk0 => ?_) (fun hk0 => ?_)
        · (first | refine wXD ?_ | exact wZD)
          -- 6: the kind, [91]: the front, [44, 32]: what stands ahead, by rw [preT_6 rfl, if_pos (by omega)]: why
          refine callG (WriteString_w _ _ way2 j3 true (foldT ff (preT (Cell.mk 6 num text names items)) 0 (items.take k) (out ++ ([91]))) ([44, 32]) i3 hi3 (by have := hfold k; simp only [List.length_cons, List.length_nil]; omega)) [0, 1, 2, 3] rfl ⟨rfl, rfl, rfl, rfl, trivial⟩ rfl fun i6 hi6 => ?_
          (first | refine wXD ?_ | exact wZD)
          -- an item is written, and the round is over; [44, 32]: what stands ahead of it, i6: the Builder's place, by rw [preT_6 rfl, if_pos (by omega)]: the proof that it stands ahead
          refine callG (ih (by omega) (foldT ff (preT (Cell.mk 6 num text names items)) 0 (items.take k) (out ++ ([91])) ++ ([44, 32])) way2 i6 j3 xn (hi6) hj3 hx1 hnd2 hr2 (by omega) (by have := hfold k; simp only [List.length_append, List.length_cons, List.length_nil]; omega)) [0, 1, 2, 3] rfl ⟨rfl, rfl, rfl, rfl, trivial⟩ rfl fun st hst => ?_
          obtain ⟨i5, j5⟩ := st
          obtain ⟨hi5, hj5⟩ := hst
          simp only at hi5 hj5
          (first | refine wXD ?_ | exact wZD)
          have hfs := foldT_take (f := ff) (pre := preT (Cell.mk 6 num text names items)) hx (out ++ ([91]))
          rw [show preT (Cell.mk 6 num text names items) k = [44, 32] from by rw [preT_6 rfl, if_pos (by omega)], hfx] at hfs
          refine ⟨(k + 1, i5, j5), ⟨by omega, by rw [hfs]; exact hi5, hj5⟩, by show items.length - (k + 1) < items.length - k; omega, ?_, ?_⟩
          · (repeat' (first | exact trivial | refine And.intro (by with_reducible rfl) ?_ | (with_reducible exact wkC_refl _) | (with_reducible exact wkCs_refl _) | refine And.intro ?_ ?_))
            all_goals first | rfl | exact av_int (by rw [wrap_i64 (by omega)]; omega) | exact av_int (by omega)
          · show wkH _ (wH _ _ true (foldT ff _ 0 (items.take (k + 1)) _) _ _ _ ++ _)
            rw [hfs]
            exact ⟨wkE_refl _, wkE_refl _, wkE_refl _, wkE_refl _, trivial, trivial, trivial, wkE_refl _, trivial⟩
        · (first | refine wXD ?_ | exact wZD)
          -- 6: the kind, [91]: the front, by rw [preT_6 rfl, if_neg (by omega)]: why
          rw [show foldT ff (preT (Cell.mk 6 num text names items)) 0 (items.take k) (out ++ ([91])) = foldT ff (preT (Cell.mk 6 num text names items)) 0 (items.take k) (out ++ ([91])) ++ [] from (List.append_nil _).symm]
          -- an item is written, and the round is over; []: what stands ahead of it, i3: the Builder's place, by rw [preT_6 rfl, if_neg (by omega)]: the proof that it stands ahead
          refine callG (ih (by omega) (foldT ff (preT (Cell.mk 6 num text names items)) 0 (items.take k) (out ++ ([91])) ++ ([])) way2 i3 j3 xn (by rw [List.append_nil]; exact hi3) hj3 hx1 hnd2 hr2 (by omega) (by have := hfold k; simp only [List.length_append, List.length_cons, List.length_nil]; omega)) [0, 1, 2, 3] rfl ⟨rfl, rfl, rfl, rfl, trivial⟩ rfl fun st hst => ?_
          obtain ⟨i5, j5⟩ := st
          obtain ⟨hi5, hj5⟩ := hst
          simp only at hi5 hj5
          (first | refine wXD ?_ | exact wZD)
          have hfs := foldT_take (f := ff) (pre := preT (Cell.mk 6 num text names items)) hx (out ++ ([91]))
          rw [show preT (Cell.mk 6 num text names items) k = [] from by rw [preT_6 rfl, if_neg (by omega)], hfx] at hfs
          refine ⟨(k + 1, i5, j5), ⟨by omega, by rw [hfs]; exact hi5, hj5⟩, by show items.length - (k + 1) < items.length - k; omega, ?_, ?_⟩
          · (repeat' (first | exact trivial | refine And.intro (by with_reducible rfl) ?_ | (with_reducible exact wkC_refl _) | (with_reducible exact wkCs_refl _) | refine And.intro ?_ ?_))
            all_goals first | rfl | exact av_int (by rw [wrap_i64 (by omega)]; omega) | exact av_int (by omega)
          · show wkH _ (wH _ _ true (foldT ff _ 0 (items.take (k + 1)) _) _ _ _ ++ _)
            rw [hfs]
            exact ⟨wkE_refl _, wkE_refl _, wkE_refl _, wkE_refl _, trivial, trivial, trivial, wkE_refl _, trivial⟩
      · have hin : k = items.length := by omega
        subst hin
        rw [List.take_length] at hi3 ⊢
        have hfe := hfold items.length
        rw [List.take_length] at hfe
        obtain ⟨wb, wc⟩ := j3
        cases wb with
        | none =>
          have := (hj3.1 rfl).1
          omega
        | some wb =>
        have hwc3 : way2.length ≤ wc := hj3.2.1
        (first | refine wXD ?_ | exact wZD)
        refine callG (WriteString_w _ _ way2 ⟨some wb, wc⟩ true (foldT ff (preT (Cell.mk 6 num text names items)) 0 items (out ++ ([91]))) ([93]) i3 hi3 (by simp only [List.length_cons, List.length_nil]; omega)) [0, 1, 2, 3] rfl ⟨rfl, rfl, rfl, rfl, trivial⟩ rfl fun i7 hi7 => ?_
        (first | refine wXD ?_ | exact wZD)
        -- i7: the Builder's place
        refine DrawN.plan [0, 1, 5] [(2, 1), (3, 1), (4, 1), (6, 1), (7, 1), (8, 1), (9, 1), (10, 1), (11, 1), (12, 1), (13, 1)] [(14, 0)] (by decide +kernel) ?_
        (first | refine wXD ?_ | exact wZD)
        rw [show IntKind.i64.wrap ((way2.length : Int) - 1) = (way.length : Int) by rw [wrap_i64 (by omega)]; omega]
        refine ReadW.slc_hi rfl (by kernel_rfl) rfl rfl (by show (0 : Int) ≤ (way.length : Int) ∧ (way.length : Int) ≤ (wc : Int); omega) ?_
        rw [Int.toNat_natCast]
        (first | refine wXD ?_ | exact wZD)
        refine ⟨(i7, ⟨some wb, wc⟩), ⟨hi7, (fun h => by cases h), by show way.length ≤ wc; omega, fun h => by have : wc = 0 := h; omega⟩, rfl, ⟨rfl, rfl, rfl, rfl, rfl, trivial⟩, wkE_refl _, .inr (.inr ⟨rfl, rfl, ?_, rfl, by omega, rfl⟩), wkE_refl _, trivial⟩
        rw [hway2, Nat.mul_one]
        simp [iC]
    · -- 7: the kind
      rw [writeS_in hM hat (fun h => absurd (of_decide_eq_true h) (by show ¬ (7 : Int) ≤ 5; decide))]
      -- 7: the kind
      refine ownC hm Tryz.func51 (by kernel_rfl) rfl rfl (fun _ _ => wH_ok _ _ _ _ _ _ _) (fun _ _ => Nat.le_refl _) ?_
      (first | refine wX ?_ | exact wZ)
      refine callG (Len_w _ _ way j true out i) [0, 1, 2, 3] rfl ⟨rfl, rfl, rfl, rfl, trivial⟩ rfl fun _ _ => ?_
      (first | refine wX ?_ | exact wZ)
      refine brd_dec (fun h => absurd h (by omega)) (fun _ => ?_)
      (first | refine wX ?_ | exact wZ)
      refine Nd.mk ⟨hsa, by omega, by omega⟩ ?_
      (first | refine wX ?_ | exact wZ)
      refine LdN.agg [.int .i64 7, .int .i64 num, .string (bs text), .slice na names.length nc, .slice ia items.length ic] rfl (fun w hw => hw.2.2.1.1.1) rfl (fun k hk => by rw [Int.toNat_natCast]; exact grC_get l u k hk hp) ?_
      (first | refine wXD ?_ | exact wZD)
      refine spec_of_exec hm Tryz.func99 (by kernel_rfl) rfl rfl ?_
      (first | refine wXD ?_ | exact wZD)
      refine SpecH.args (args' := pvs [.slice (at0 j.ob) way.length j.cap, .int .i64 (u : Int)]) (by simp [pvs, opvs, opv, nth]; try rfl) ?_
      refine call1 (contains_c j.ob j.cap way u (fun h => List.eq_nil_of_length_eq_zero (hj.1 h).1) (by omega) _ (fun w hw => hw.2.1)) ?_
      (first | refine wXD ?_ | exact wZD)
      try refine Nd.mk ⟨Nat.le_refl 1, rfl, rfl⟩ ?_
      (conv => whnf)
      refine AppN.grow 2 (iC way) [.int .i64 (u : Int)] rfl rfl ⟨Nat.le_refl 1, ⟨by show (way.length + 1) * 8 ≤ _; omega, by omega⟩, Nat.one_ne_zero⟩ fun wb wc hwc _ => ?_
      obtain ⟨way2, hway2⟩ : ∃ w2, w2 = way ++ [(u : Int)] := ⟨_, rfl⟩
      have hcl : iC way ++ [.int .i64 (u : Int)] = iC way2 := by rw [hway2]; simp [iC]
      have hll : way.length + 1 = way2.length := by rw [hway2]; simp
      rw [hcl, hll]
      (first | refine wXD ?_ | exact wZD)
      -- out: what is there, [123]: what is written, i: the Builder's place, hi: its word, i2: the place behind
      refine callG (WriteString_w _ _ way2 ⟨some wb, wc⟩ true (out) ([123]) i hi (by first | omega | (simp; omega))) [0, 1, 2, 3] rfl ⟨rfl, rfl, rfl, rfl, trivial⟩ rfl fun i2 hi2 => ?_
      (first | refine wXD ?_ | exact wZD)
      -- [123]: front, [46, 46, 46]: mark, [125]: back
      cases hun : decide ((u : Int) ∈ way) with
      | true =>
        rw [if_pos (of_decide_eq_true hun)]
        (first | refine wXD ?_ | exact wZD)
        -- out ++ ([123]): what is there, [46, 46, 46]: what is written, i2: the Builder's place, hi2: its word, i3: the place behind
        refine callG (WriteString_w _ _ way2 ⟨some wb, wc⟩ true (out ++ ([123])) ([46, 46, 46]) i2 hi2 (by first | omega | (simp; omega))) [0, 1, 2, 3] rfl ⟨rfl, rfl, rfl, rfl, trivial⟩ rfl fun i3 hi3 => ?_
        (first | refine wXD ?_ | exact wZD)
        -- out ++ ([123]) ++ ([46, 46, 46]): what is there, [125]: what is written, i3: the Builder's place, hi3: its word, i4: the place behind
        refine callG (WriteString_w _ _ way2 ⟨some wb, wc⟩ true (out ++ ([123]) ++ ([46, 46, 46])) ([125]) i3 hi3 (by first | omega | (simp; omega))) [0, 1, 2, 3] rfl ⟨rfl, rfl, rfl, rfl, trivial⟩ rfl fun i4 hi4 => ?_
        (first | refine wXD ?_ | exact wZD)
        -- i4: the Builder's place
        refine DrawN.plan [0, 1, 5] [(2, 1), (3, 1), (4, 1), (6, 1), (7, 1), (8, 1), (9, 1), (10, 1), (11, 1), (12, 1), (13, 1)] [(14, 0)] (by decide +kernel) ?_
        (first | refine wXD ?_ | exact wZD)
        rw [show IntKind.i64.wrap ((way2.length : Int) - 1) = (way.length : Int) by rw [wrap_i64 (by omega)]; omega]
        refine ReadW.slc_hi rfl (by kernel_rfl) rfl rfl (by show (0 : Int) ≤ (way.length : Int) ∧ (way.length : Int) ≤ (wc : Int); omega) ?_
        rw [Int.toNat_natCast]
        (first | refine wXD ?_ | exact wZD)
        refine ⟨(i4, ⟨some wb, wc⟩), ⟨hi4, (fun h => by cases h), by show way.length ≤ wc; omega, fun h => by have : wc = 0 := h; omega⟩, rfl, ⟨rfl, rfl, rfl, rfl, rfl, trivial⟩, wkE_refl _, .inr (.inr ⟨rfl, rfl, ?_, rfl, by omega, rfl⟩), wkE_refl _, trivial⟩
        rw [hway2, Nat.mul_one]
        simp [iC]
      | false =>
      rw [if_neg (of_decide_eq_false hun)]
      (first | refine wXD ?_ | exact wZD)
      -- 7: the kind, [123]: the front
      rw [← hway2]
      have hnd2 : way2.Nodup := by
        rw [hway2]
        exact List.nodup_append.2 ⟨hw, by simp, fun x hx y hy => by
          rw [List.mem_singleton.1 hy]
          intro e
          subst e
          exact of_decide_eq_false hun hx⟩
      have hr2 : ∀ x ∈ way2, 0 ≤ x ∧ x < (l.length : Int) := fun x hx => by
        rw [hway2] at hx
        rcases List.mem_append.1 hx with hx | hx
        · exact hr x hx
        · rw [List.mem_singleton.1 hx]; omega
      obtain ⟨ff, hff⟩ : ∃ ff, ff = fun o k => writeS 20000 (leafS qt it) (l.map (·.c)) m o way2 k := ⟨_, rfl⟩
      rw [← hff]
      have hfx : ∀ o x, ff o x = writeS 20000 (leafS qt it) (l.map (·.c)) m o way2 x := fun o x => by rw [hff]
      have hpre : ∀ i, (preT (Cell.mk 7 num text names items) i).length ≤ 50 := fun i => by
        have := pre_le hsh (u : Int) i
        rw [hat] at this
        exact this
      have hfold : ∀ k, (foldT ff (preT (Cell.mk 7 num text names items)) 0 (items.take k) (out ++ ([123]))).length ≤ 130000000 := fun k => by
        have hfl : (out ++ ([123])).length ≤ out.length + 2002 := by simp; try omega
        have := foldT_len (M := 20000) (f := ff) (pre := preT (Cell.mk 7 num text names items)) (p := 50) (X := 20000 + m * 200000) hpre (by omega) (fun o k ho => by rw [hff]; exact write_same m o _ k ho) (fun o k ho => by rw [hff]; have := write_len (M := 20000) hsh m o way2 k; show (writeS _ _ _ _ _ _ _).length ≤ _; omega) (items.take k) 0 (out ++ ([123])) (22002 + m * 200000) (by omega) (by omega)
        rw [List.length_take] at this
        omega
      refine spec_of_exec hm Tryz.func122 (by kernel_rfl) rfl rfl ?_
      (first | refine wXD ?_ | exact wZD)
      -- 7: the kind, [123]: the front
      refine LoopN.intro (Nat × BSt × BSt) (fun ⟨k, i, j⟩ => k ≤ items.length ∧ i.ok (foldT ff (preT (Cell.mk 7 num text names items)) 0 (items.take k) (out ++ ([123]))).length ∧ j.ok way2.length) (fun ⟨k, _, _⟩ => mkS Tryz.f122.ntmps 0 [(0, .c (.lp 0 0)), (3, .c (.lp 7 0)), (7, .c (.v (.slice ia items.length ic))), (8, .c (.v (.int .i64 (items.length : Int)))), (9, .c (.v (.int .i64 (k : Int))))])
        (fun ⟨k, i, j⟩ => wH (.slice a l.length ca) (gF a l E) true (foldT ff (preT (Cell.mk 7 num text names items)) 0 (items.take k) (out ++ ([123]))) i way2 j ++ [.dead, .dead, .dead, .blk 42 [.v (.int .i64 7), .v (.int .i64 num), .v (.string (bs text)), .v (.slice na names.length nc), .v (.slice ia items.length ic)]]) (fun ⟨k, _, _⟩ => items.length - k) [] rfl (fun ⟨_, _, _⟩ => rfl) (fun ⟨_, _, _⟩ => rfl) (fun ⟨_, _, _⟩ _ => okHB_eq rfl) ?_ ?_
      · refine ⟨(0, i2, ⟨some wb, wc⟩), ⟨Nat.zero_le _, hi2, (fun h => by cases h), by show way2.length ≤ wc; omega, fun h => by have : wc = 0 := h; omega⟩, ?_, wkE_refl _, wkE_refl _, wkE_refl _, wkE_refl _, trivial, trivial, trivial, wkE_refl _, trivial⟩
        (repeat' (first | exact trivial | refine And.intro (by with_reducible rfl) ?_ | (with_reducible exact wkC_refl _) | (with_reducible exact wkCs_refl _) | refine And.intro ?_ ?_))
        all_goals rfl
      rintro ⟨k, i3, j3⟩ ⟨hk3, hi3, hj3⟩
      (first | refine wXD ?_ | exact wZD)
      refine brd_dec (fun h1 => ?_) (fun h1 => ?_)
      · obtain ⟨x, hx⟩ : ∃ x, items[k]? = some x := ⟨_, List.getElem?_eq_getElem (by omega)⟩
        have hxin := cellD_in hcd x (List.mem_of_getElem? hx)
        obtain ⟨xn, rfl⟩ : ∃ xn : Nat, x = (xn : Int) := ⟨x.toNat, by omega⟩
        have hx1 : xn < l.length := by omega
        have hsi : ia.isSome = true := by
          have := hpo.ia
          cases ia with
          | none =>
            have h0 : items = [] := this rfl
            rw [h0] at hx
            cases hx
          | some b => rfl
        (first | refine wXD ?_ | exact wZD)
        refine Nd.mk ⟨hsi, by omega, by omega⟩ ?_
        (first | refine wXD ?_ | exact wZD)
        refine LdN.one (.int .i64 (xn : Int)) rfl (fun w hw => (hw.2.2.1.1.2 _ hpm).2) (by rw [Int.toNat_natCast]; show (iC items)[k * 1]? = _; rw [Nat.mul_one]; exact iC_get hx) ?_
        (first | refine wXD ?_ | exact wZD)
        refine brd_eq (fun hk1 => ?_) (fun hk1 => ?_)
        · rw [Int.tmod_eq_emod_of_nonneg (by omega)] at hk1
          (first | refine wXD ?_ | exact wZD)
          -- 7: the kind, [123]: the front, [32, 61, 62, 32]: what stands ahead, by rw [preT_7 rfl, if_pos (by omega)]: why
          refine callG (WriteString_w _ _ way2 j3 true (foldT ff (preT (Cell.mk 7 num text names items)) 0 (items.take k) (out ++ ([123]))) ([32, 61, 62, 32]) i3 hi3 (by have := hfold k; simp only [List.length_cons, List.length_nil]; omega)) [0, 1, 2, 3] rfl ⟨rfl, rfl, rfl, rfl, trivial⟩ rfl fun i6 hi6 => ?_
          (first | refine wXD ?_ | exact wZD)
          -- an item is written, and the round is over; [32, 61, 62, 32]: what stands ahead of it, i6: the Builder's place, by rw [preT_7 rfl, if_pos (by omega)]: the proof that it stands ahead
          refine callG (ih (by omega) (foldT ff (preT (Cell.mk 7 num text names items)) 0 (items.take k) (out ++ ([123])) ++ ([32, 61, 62, 32])) way2 i6 j3 xn (hi6) hj3 hx1 hnd2 hr2 (by omega) (by have := hfold k; simp only [List.length_append, List.length_cons, List.length_nil]; omega)) [0, 1, 2, 3] rfl ⟨rfl, rfl, rfl, rfl, trivial⟩ rfl fun st hst => ?_
          obtain ⟨i5, j5⟩ := st
          obtain ⟨hi5, hj5⟩ := hst
          simp only at hi5 hj5
          (first | refine wXD ?_ | exact wZD)
          have hfs := foldT_take (f := ff) (pre := preT (Cell.mk 7 num text names items)) hx (out ++ ([123]))
          rw [show preT (Cell.mk 7 num text names items) k = [32, 61, 62, 32] from by rw [preT_7 rfl, if_pos (by omega)], hfx] at hfs
          refine ⟨(k + 1, i5, j5), ⟨by omega, by rw [hfs]; exact hi5, hj5⟩, by show items.length - (k + 1) < items.length - k; omega, ?_, ?_⟩
          · (repeat' (first | exact trivial | refine And.intro (by with_reducible rfl) ?_ | (with_reducible exact wkC_refl _) | (with_reducible exact wkCs_refl _) | refine And.intro ?_ ?_))
            all_goals first | rfl | exact av_int (by rw [wrap_i64 (by omega)]; omega) | exact av_int (by omega)
          · show wkH _ (wH _ _ true (foldT ff _ 0 (items.take (k + 1)) _) _ _ _ ++ _)
            rw [hfs]
            exact ⟨wkE_refl _, wkE_refl _, wkE_refl _, wkE_refl _, trivial, trivial, trivial, wkE_refl _, trivial⟩
        rw [Int.tmod_eq_emod_of_nonneg (by omega)] at hk1
        (first | refine wXD ?_ | exact wZD)
        refine brd_dec (fun hk0 => ?_) (fun hk0 => ?_)
        · (first | refine wXD ?_ | exact wZD)
          -- 7: the kind, [123]: the front, [44, 32]: what stands ahead, by rw [preT_7 rfl, if_neg (by omega), if_pos (by omega)]: why
          refine callG (WriteString_w _ _ way2 j3 true (foldT ff (preT (Cell.mk 7 num text names items)) 0 (items.take k) (out ++ ([123]))) ([44, 32]) i3 hi3 (by have := hfold k; simp only [List.length_cons, List.length_nil]; omega)) [0, 1, 2, 3] rfl ⟨rfl, rfl, rfl, rfl, trivial⟩ rfl fun i6 hi6 => ?_
          (first | refine wXD ?_ | exact wZD)
          -- an item is written, and the round is over; [44, 32]: what stands ahead of it, i6: the Builder's place, by rw [preT_7 rfl, if_neg (by omega), if_pos (by omega)]: the proof that it stands ahead
          refine callG (ih (by omega) (foldT ff (preT (Cell.mk 7 num text names items)) 0 (items.take k) (out ++ ([123])) ++ ([44, 32])) way2 i6 j3 xn (hi6) hj3 hx1 hnd2 hr2 (by omega) (by have := hfold k; simp only [List.length_append, List.length_cons, List.length_nil]; omega)) [0, 1, 2, 3] rfl ⟨rfl, rfl, rfl, rfl, trivial⟩ rfl fun st hst => ?_
          obtain ⟨i5, j5⟩ := st
          obtain ⟨hi5, hj5⟩ := hst
          simp only at hi5 hj5
          (first | refine wXD ?_ | exact wZD)
          have hfs := foldT_take (f := ff) (pre := preT (Cell.mk 7 num text names items)) hx (out ++ ([123]))
          rw [show preT (Cell.mk 7 num text names items) k = [44, 32] from by rw [preT_7 rfl, if_neg (by omega), if_pos (by omega)], hfx] at hfs
          refine ⟨(k + 1, i5, j5), ⟨by omega, by rw [hfs]; exact hi5, hj5⟩, by show items.length - (k + 1) < items.length - k; omega, ?_, ?_⟩
          · (repeat' (first | exact trivial | refine And.intro (by with_reducible rfl) ?_ | (with_reducible exact wkC_refl _) | (with_reducible exact wkCs_refl _) | refine And.intro ?_ ?_))
            all_goals first | rfl | exact av_int (by rw [wrap_i64 (by omega)]; omega) | exact av_int (by omega)
          · show wkH _ (wH _ _ true (foldT ff _ 0 (items.take (k + 1)) _) _ _ _ ++ _)
            rw [hfs]
            exact ⟨wkE_refl _, wkE_refl _, wkE_refl _, wkE_refl _, trivial, trivial, trivial, wkE_refl _, trivial⟩
        · (first | refine wXD ?_ | exact wZD)
          -- 7: the kind, [123]: the front, by rw [preT_7 rfl, if_neg (by omega), if_neg (by omega)]: why
          rw [show foldT ff (preT (Cell.mk 7 num text names items)) 0 (items.take k) (out ++ ([123])) = foldT ff (preT (Cell.mk 7 num text names items)) 0 (items.take k) (out ++ ([123])) ++ [] from (List.append_nil _).symm]
          -- an item is written, and the round is over; []: what stands ahead of it, i3: the Builder's place, by rw [preT_7 rfl, if_neg (by omega), if_neg (by omega)]: the proof that it stands ahead
          refine callG (ih (by omega) (foldT ff (preT (Cell.mk 7 num text names items)) 0 (items.take k) (out ++ ([123])) ++ ([])) way2 i3 j3 xn (by rw [List.append_nil]; exact hi3) hj3 hx1 hnd2 hr2 (by omega) (by have := hfold k; simp only [List.length_append, List.length_cons, List.length_nil]; omega)) [0, 1, 2, 3] rfl ⟨rfl, rfl, rfl, rfl, trivial⟩ rfl fun st hst => ?_
          obtain ⟨i5, j5⟩ := st
          obtain ⟨hi5, hj5⟩ := hst
          simp only at hi5 hj5
          (first | refine wXD ?_ | exact wZD)
          have hfs := foldT_take (f := ff) (pre := preT (Cell.mk 7 num text names items)) hx (out ++ ([123]))
          rw [show preT (Cell.mk 7 num text names items) k = [] from by rw [preT_7 rfl, if_neg (by omega), if_neg (by omega)], hfx] at hfs
          refine ⟨(k + 1, i5, j5), ⟨by omega, by rw [hfs]; exact hi5, hj5⟩, by show items.length - (k + 1) < items.length - k; omega, ?_, ?_⟩
          · (repeat' (first | exact trivial | refine And.intro (by with_reducible rfl) ?_ | (with_reducible exact wkC_refl _) | (with_reducible exact wkCs_refl _) | refine And.intro ?_ ?_))
            all_goals first | rfl | exact av_int (by rw [wrap_i64 (by omega)]; omega) | exact av_int (by omega)
          · show wkH _ (wH _ _ true (foldT ff _ 0 (items.take (k + 1)) _) _ _ _ ++ _)
            rw [hfs]
            exact ⟨wkE_refl _, wkE_refl _, wkE_refl _, wkE_refl _, trivial, trivial, trivial, wkE_refl _, trivial⟩
      · have hin : k = items.length := by omega
        subst hin
        rw [List.take_length] at hi3 ⊢
        have hfe := hfold items.length
        rw [List.take_length] at hfe
        obtain ⟨wb, wc⟩ := j3
        cases wb with
        | none =>
          have := (hj3.1 rfl).1
          omega
        | some wb =>
        have hwc3 : way2.length ≤ wc := hj3.2.1
        (first | refine wXD ?_ | exact wZD)
        refine callG (WriteString_w _ _ way2 ⟨some wb, wc⟩ true (foldT ff (preT (Cell.mk 7 num text names items)) 0 items (out ++ ([123]))) ([125]) i3 hi3 (by simp only [List.length_cons, List.length_nil]; omega)) [0, 1, 2, 3] rfl ⟨rfl, rfl, rfl, rfl, trivial⟩ rfl fun i7 hi7 => ?_
        (first | refine wXD ?_ | exact wZD)
        -- i7: the Builder's place
        refine DrawN.plan [0, 1, 5] [(2, 1), (3, 1), (4, 1), (6, 1), (7, 1), (8, 1), (9, 1), (10, 1), (11, 1), (12, 1), (13, 1)] [(14, 0)] (by decide +kernel) ?_
        (first | refine wXD ?_ | exact wZD)
        rw [show IntKind.i64.wrap ((way2.length : Int) - 1) = (way.length : Int) by rw [wrap_i64 (by omega)]; omega]
        refine ReadW.slc_hi rfl (by kernel_rfl) rfl rfl (by show (0 : Int) ≤ (way.length : Int) ∧ (way.length : Int) ≤ (wc : Int); omega) ?_
        rw [Int.toNat_natCast]
        (first | refine wXD ?_ | exact wZD)
        refine ⟨(i7, ⟨some wb, wc⟩), ⟨hi7, (fun h => by cases h), by show way.length ≤ wc; omega, fun h => by have : wc = 0 := h; omega⟩, rfl, ⟨rfl, rfl, rfl, rfl, rfl, trivial⟩, wkE_refl _, .inr (.inr ⟨rfl, rfl, ?_, rfl, by omega, rfl⟩), wkE_refl _, trivial⟩
        rw [hway2, Nat.mul_one]
        simp [iC]
    · rw [writeS_in hM hat (fun h => absurd (of_decide_eq_true h) (by show ¬ (8 : Int) ≤ 5; decide))]
      -- 8: the kind
      refine ownC hm Tryz.func51 (by kernel_rfl) rfl rfl (fun _ _ => wH_ok _ _ _ _ _ _ _) (fun _ _ => Nat.le_refl _) ?_
      (first | refine wX ?_ | exact wZ)
      refine callG (Len_w _ _ way j true out i) [0, 1, 2, 3] rfl ⟨rfl, rfl, rfl, rfl, trivial⟩ rfl fun _ _ => ?_
      (first | refine wX ?_ | exact wZ)
      refine brd_dec (fun h => absurd h (by omega)) (fun _ => ?_)
      (first | refine wX ?_ | exact wZ)
      refine Nd.mk ⟨hsa, by omega, by omega⟩ ?_
      (first | refine wX ?_ | exact wZ)
      refine LdN.agg [.int .i64 8, .int .i64 num, .string (bs text), .slice na names.length nc, .slice ia items.length ic] rfl (fun w hw => hw.2.2.1.1.1) rfl (fun k hk => by rw [Int.toNat_natCast]; exact grC_get l u k hk hp) ?_
      (first | refine wXD ?_ | exact wZD)
      refine spec_of_exec hm Tryz.func99 (by kernel_rfl) rfl rfl ?_
      ((conv => whnf); (repeat ((first | refine LdN.one (a := some ⟨cb, 0, none⟩) (q := 0) (xs := [_, _, _, _, _]) _ rfl (fun w hw => hw.2.2.2.1) rfl ?_ | refine LdN.one (a := some ⟨cb, 0, none⟩) (q := 1) (xs := [_, _, _, _, _]) _ rfl (fun w hw => hw.2.2.2.1) rfl ?_ | refine LdN.one (a := some ⟨cb, 0, none⟩) (q := 2) (xs := [_, _, _, _, _]) _ rfl (fun w hw => hw.2.2.2.1) rfl ?_ | refine LdN.one (a := some ⟨cb, 0, none⟩) (q := 3) (xs := [_, _, _, _, _]) _ rfl (fun w hw => hw.2.2.2.1) rfl ?_ | refine LdN.one (a := some ⟨cb, 0, none⟩) (q := 4) (xs := [_, _, _, _, _]) _ rfl (fun w hw => hw.2.2.2.1) rfl ?_ | refine RwN.own ?_ | refine VrN.norm (wrap_i64 (by omega)) ?_ | refine VrN.keep ?_ | refine Nd.mk (by decide +kernel) ?_ | refine Nd.mk (by omega) ?_ | (refine Nd.mk ?_ ?_; focus ((repeat' (first | exact trivial | exact wkE_refl _ | refine And.intro ?_ ?_)); done)) | refine RdN.intro _ rfl (by rfl) ?_); (conv => whnf))))
      refine BoxN.known [.int .i64 8, .int .i64 num, .string (bs text), .slice na names.length nc, .slice ia items.length ic] rfl fun cb => ?_
      ((conv => whnf); (repeat ((first | refine LdN.one (a := some ⟨cb, 0, none⟩) (q := 0) (xs := [_, _, _, _, _]) _ rfl (fun w hw => hw.2.2.2.1) rfl ?_ | refine LdN.one (a := some ⟨cb, 0, none⟩) (q := 1) (xs := [_, _, _, _, _]) _ rfl (fun w hw => hw.2.2.2.1) rfl ?_ | refine LdN.one (a := some ⟨cb, 0, none⟩) (q := 2) (xs := [_, _, _, _, _]) _ rfl (fun w hw => hw.2.2.2.1) rfl ?_ | refine LdN.one (a := some ⟨cb, 0, none⟩) (q := 3) (xs := [_, _, _, _, _]) _ rfl (fun w hw => hw.2.2.2.1) rfl ?_ | refine LdN.one (a := some ⟨cb, 0, none⟩) (q := 4) (xs := [_, _, _, _, _]) _ rfl (fun w hw => hw.2.2.2.1) rfl ?_ | refine RwN.own ?_ | refine VrN.norm (wrap_i64 (by omega)) ?_ | refine VrN.keep ?_ | refine Nd.mk (by decide +kernel) ?_ | refine Nd.mk (by omega) ?_ | (refine Nd.mk ?_ ?_; focus ((repeat' (first | exact trivial | exact wkE_refl _ | refine And.intro ?_ ?_)); done)) | refine RdN.intro _ rfl (by rfl) ?_); (conv => whnf))))
      refine SpecH.args (args' := pvs [.slice (at0 j.ob) way.length j.cap, .int .i64 (u : Int)]) (by simp [pvs, opvs, opv, nth]; try rfl) ?_
      refine call1 (contains_c j.ob j.cap way u (fun h => List.eq_nil_of_length_eq_zero (hj.1 h).1) (by omega) _ (fun w hw => hw.2.1)) ?_
      ((conv => whnf); (repeat ((first | refine LdN.one (a := some ⟨cb, 0, none⟩) (q := 0) (xs := [_, _, _, _, _]) _ rfl (fun w hw => hw.2.2.2.1) rfl ?_ | refine LdN.one (a := some ⟨cb, 0, none⟩) (q := 1) (xs := [_, _, _, _, _]) _ rfl (fun w hw => hw.2.2.2.1) rfl ?_ | refine LdN.one (a := some ⟨cb, 0, none⟩) (q := 2) (xs := [_, _, _, _, _]) _ rfl (fun w hw => hw.2.2.2.1) rfl ?_ | refine LdN.one (a := some ⟨cb, 0, none⟩) (q := 3) (xs := [_, _, _, _, _]) _ rfl (fun w hw => hw.2.2.2.1) rfl ?_ | refine LdN.one (a := some ⟨cb, 0, none⟩) (q := 4) (xs := [_, _, _, _, _]) _ rfl (fun w hw => hw.2.2.2.1) rfl ?_ | refine RwN.own ?_ | refine VrN.norm (wrap_i64 (by omega)) ?_ | refine VrN.keep ?_ | refine Nd.mk (by decide +kernel) ?_ | refine Nd.mk (by omega) ?_ | (refine Nd.mk ?_ ?_; focus ((repeat' (first | exact trivial | exact wkE_refl _ | refine And.intro ?_ ?_)); done)) | refine RdN.intro _ rfl (by rfl) ?_); (conv => whnf))))
      try refine Nd.mk ⟨Nat.le_refl 1, rfl, rfl⟩ ?_
      (conv => whnf)
      refine AppN.grow 2 (iC way) [.int .i64 (u : Int)] rfl rfl ⟨Nat.le_refl 1, ⟨by show (way.length + 1) * 8 ≤ _; omega, by omega⟩, Nat.one_ne_zero⟩ fun wb wc hwc _ => ?_
      obtain ⟨way2, hway2⟩ : ∃ w2, w2 = way ++ [(u : Int)] := ⟨_, rfl⟩
      have hcl : iC way ++ [.int .i64 (u : Int)] = iC way2 := by rw [hway2]; simp [iC]
      have hll : way.length + 1 = way2.length := by rw [hway2]; simp
      rw [hcl, hll]
      ((conv => whnf); (repeat ((first | refine LdN.one (a := some ⟨cb, 0, none⟩) (q := 0) (xs := [_, _, _, _, _]) _ rfl (fun w hw => hw.2.2.2.1) rfl ?_ | refine LdN.one (a := some ⟨cb, 0, none⟩) (q := 1) (xs := [_, _, _, _, _]) _ rfl (fun w hw => hw.2.2.2.1) rfl ?_ | refine LdN.one (a := some ⟨cb, 0, none⟩) (q := 2) (xs := [_, _, _, _, _]) _ rfl (fun w hw => hw.2.2.2.1) rfl ?_ | refine LdN.one (a := some ⟨cb, 0, none⟩) (q := 3) (xs := [_, _, _, _, _]) _ rfl (fun w hw => hw.2.2.2.1) rfl ?_ | refine LdN.one (a := some ⟨cb, 0, none⟩) (q := 4) (xs := [_, _, _, _, _]) _ rfl (fun w hw => hw.2.2.2.1) rfl ?_ | refine RwN.own ?_ | refine VrN.norm (wrap_i64 (by omega)) ?_ | refine VrN.keep ?_ | refine Nd.mk (by decide +kernel) ?_ | refine Nd.mk (by omega) ?_ | (refine Nd.mk ?_ ?_; focus ((repeat' (first | exact trivial | exact wkE_refl _ | refine And.intro ?_ ?_)); done)) | refine RdN.intro _ rfl (by rfl) ?_); (conv => whnf))))
      refine Nd.mk (by show 2 + (bs text).size < _; rw [bs_size]; omega) ?_
      rw [show (({ data := #[35, 60] } : ByteArray) ++ bs text) = bs ([35, 60] ++ text) by rw [← bs_app]; rfl]
      ((conv => whnf); (repeat ((first | refine LdN.one (a := some ⟨cb, 0, none⟩) (q := 0) (xs := [_, _, _, _, _]) _ rfl (fun w hw => hw.2.2.2.1) rfl ?_ | refine LdN.one (a := some ⟨cb, 0, none⟩) (q := 1) (xs := [_, _, _, _, _]) _ rfl (fun w hw => hw.2.2.2.1) rfl ?_ | refine LdN.one (a := some ⟨cb, 0, none⟩) (q := 2) (xs := [_, _, _, _, _]) _ rfl (fun w hw => hw.2.2.2.1) rfl ?_ | refine LdN.one (a := some ⟨cb, 0, none⟩) (q := 3) (xs := [_, _, _, _, _]) _ rfl (fun w hw => hw.2.2.2.1) rfl ?_ | refine LdN.one (a := some ⟨cb, 0, none⟩) (q := 4) (xs := [_, _, _, _, _]) _ rfl (fun w hw => hw.2.2.2.1) rfl ?_ | refine RwN.own ?_ | refine VrN.norm (wrap_i64 (by omega)) ?_ | refine VrN.keep ?_ | refine Nd.mk (by decide +kernel) ?_ | refine Nd.mk (by omega) ?_ | (refine Nd.mk ?_ ?_; focus ((repeat' (first | exact trivial | exact wkE_refl _ | refine And.intro ?_ ?_)); done)) | refine RdN.intro _ rfl (by rfl) ?_); (conv => whnf))))
      -- out: what is there, [35, 60] ++ text: what is written, i: the Builder's place, hi: its word, i2: the place behind
      refine callG (WriteString_w _ _ way2 ⟨some wb, wc⟩ true (out) ([35, 60] ++ text) i hi (by first | omega | (simp; omega))) [0, 1, 2, 3] rfl ⟨rfl, rfl, rfl, rfl, trivial⟩ rfl fun i2 hi2 => ?_
      ((conv => whnf); (repeat ((first | refine LdN.one (a := some ⟨cb, 0, none⟩) (q := 0) (xs := [_, _, _, _, _]) _ rfl (fun w hw => hw.2.2.2.1) rfl ?_ | refine LdN.one (a := some ⟨cb, 0, none⟩) (q := 1) (xs := [_, _, _, _, _]) _ rfl (fun w hw => hw.2.2.2.1) rfl ?_ | refine LdN.one (a := some ⟨cb, 0, none⟩) (q := 2) (xs := [_, _, _, _, _]) _ rfl (fun w hw => hw.2.2.2.1) rfl ?_ | refine LdN.one (a := some ⟨cb, 0, none⟩) (q := 3) (xs := [_, _, _, _, _]) _ rfl (fun w hw => hw.2.2.2.1) rfl ?_ | refine LdN.one (a := some ⟨cb, 0, none⟩) (q := 4) (xs := [_, _, _, _, _]) _ rfl (fun w hw => hw.2.2.2.1) rfl ?_ | refine RwN.own ?_ | refine VrN.norm (wrap_i64 (by omega)) ?_ | refine VrN.keep ?_ | refine Nd.mk (by decide +kernel) ?_ | refine Nd.mk (by omega) ?_ | (refine Nd.mk ?_ ?_; focus ((repeat' (first | exact trivial | exact wkE_refl _ | refine And.intro ?_ ?_)); done)) | refine RdN.intro _ rfl (by rfl) ?_); (conv => whnf))))
      cases hun : decide ((u : Int) ∈ way) with
      | true =>
        rw [if_pos (of_decide_eq_true hun)]
        ((conv => whnf); (repeat ((first | refine LdN.one (a := some ⟨cb, 0, none⟩) (q := 0) (xs := [_, _, _, _, _]) _ rfl (fun w hw => hw.2.2.2.1) rfl ?_ | refine LdN.one (a := some ⟨cb, 0, none⟩) (q := 1) (xs := [_, _, _, _, _]) _ rfl (fun w hw => hw.2.2.2.1) rfl ?_ | refine LdN.one (a := some ⟨cb, 0, none⟩) (q := 2) (xs := [_, _, _, _, _]) _ rfl (fun w hw => hw.2.2.2.1) rfl ?_ | refine LdN.one (a := some ⟨cb, 0, none⟩) (q := 3) (xs := [_, _, _, _, _]) _ rfl (fun w hw => hw.2.2.2.1) rfl ?_ | refine LdN.one (a := some ⟨cb, 0, none⟩) (q := 4) (xs := [_, _, _, _, _]) _ rfl (fun w hw => hw.2.2.2.1) rfl ?_ | refine RwN.own ?_ | refine VrN.norm (wrap_i64 (by omega)) ?_ | refine VrN.keep ?_ | refine Nd.mk (by decide +kernel) ?_ | refine Nd.mk (by omega) ?_ | (refine Nd.mk ?_ ?_; focus ((repeat' (first | exact trivial | exact wkE_refl _ | refine And.intro ?_ ?_)); done)) | refine RdN.intro _ rfl (by rfl) ?_); (conv => whnf))))
        -- out ++ ([35, 60] ++ text): what is there, [32, 46, 46, 46]: what is written, i2: the Builder's place, hi2: its word, i3: the place behind
        refine callG (WriteString_w _ _ way2 ⟨some wb, wc⟩ true (out ++ ([35, 60] ++ text)) ([32, 46, 46, 46]) i2 hi2 (by first | omega | (simp; omega))) [0, 1, 2, 3] rfl ⟨rfl, rfl, rfl, rfl, trivial⟩ rfl fun i3 hi3 => ?_
        ((conv => whnf); (repeat ((first | refine LdN.one (a := some ⟨cb, 0, none⟩) (q := 0) (xs := [_, _, _, _, _]) _ rfl (fun w hw => hw.2.2.2.1) rfl ?_ | refine LdN.one (a := some ⟨cb, 0, none⟩) (q := 1) (xs := [_, _, _, _, _]) _ rfl (fun w hw => hw.2.2.2.1) rfl ?_ | refine LdN.one (a := some ⟨cb, 0, none⟩) (q := 2) (xs := [_, _, _, _, _]) _ rfl (fun w hw => hw.2.2.2.1) rfl ?_ | refine LdN.one (a := some ⟨cb, 0, none⟩) (q := 3) (xs := [_, _, _, _, _]) _ rfl (fun w hw => hw.2.2.2.1) rfl ?_ | refine LdN.one (a := some ⟨cb, 0, none⟩) (q := 4) (xs := [_, _, _, _, _]) _ rfl (fun w hw => hw.2.2.2.1) rfl ?_ | refine RwN.own ?_ | refine VrN.norm (wrap_i64 (by omega)) ?_ | refine VrN.keep ?_ | refine Nd.mk (by decide +kernel) ?_ | refine Nd.mk (by omega) ?_ | (refine Nd.mk ?_ ?_; focus ((repeat' (first | exact trivial | exact wkE_refl _ | refine And.intro ?_ ?_)); done)) | refine RdN.intro _ rfl (by rfl) ?_); (conv => whnf))))
        -- out ++ ([35, 60] ++ text) ++ [32, 46, 46, 46]: what is there, [62]: what is written, i3: the Builder's place, hi3: its word, i4: the place behind
        refine callG (WriteString_w _ _ way2 ⟨some wb, wc⟩ true (out ++ ([35, 60] ++ text) ++ [32, 46, 46, 46]) ([62]) i3 hi3 (by first | omega | (simp; omega))) [0, 1, 2, 3] rfl ⟨rfl, rfl, rfl, rfl, trivial⟩ rfl fun i4 hi4 => ?_
        ((conv => whnf); (repeat ((first | refine LdN.one (a := some ⟨cb, 0, none⟩) (q := 0) (xs := [_, _, _, _, _]) _ rfl (fun w hw => hw.2.2.2.1) rfl ?_ | refine LdN.one (a := some ⟨cb, 0, none⟩) (q := 1) (xs := [_, _, _, _, _]) _ rfl (fun w hw => hw.2.2.2.1) rfl ?_ | refine LdN.one (a := some ⟨cb, 0, none⟩) (q := 2) (xs := [_, _, _, _, _]) _ rfl (fun w hw => hw.2.2.2.1) rfl ?_ | refine LdN.one (a := some ⟨cb, 0, none⟩) (q := 3) (xs := [_, _, _, _, _]) _ rfl (fun w hw => hw.2.2.2.1) rfl ?_ | refine LdN.one (a := some ⟨cb, 0, none⟩) (q := 4) (xs := [_, _, _, _, _]) _ rfl (fun w hw => hw.2.2.2.1) rfl ?_ | refine RwN.own ?_ | refine VrN.norm (wrap_i64 (by omega)) ?_ | refine VrN.keep ?_ | refine Nd.mk (by decide +kernel) ?_ | refine Nd.mk (by omega) ?_ | (refine Nd.mk ?_ ?_; focus ((repeat' (first | exact trivial | exact wkE_refl _ | refine And.intro ?_ ?_)); done)) | refine RdN.intro _ rfl (by rfl) ?_); (conv => whnf))))
        -- i4: the Builder's place
        refine DrawN.plan [0, 1, 5] [(2, 1), (3, 1), (4, 1), (6, 1), (7, 1), (8, 1), (9, 1), (10, 1), (11, 1), (12, 1), (13, 1)] [(14, 0)] (by decide +kernel) ?_
        (first | refine wXD ?_ | exact wZD)
        rw [show IntKind.i64.wrap ((way2.length : Int) - 1) = (way.length : Int) by rw [wrap_i64 (by omega)]; omega]
        refine ReadW.slc_hi rfl (by kernel_rfl) rfl rfl (by show (0 : Int) ≤ (way.length : Int) ∧ (way.length : Int) ≤ (wc : Int); omega) ?_
        rw [Int.toNat_natCast]
        (first | refine wXD ?_ | exact wZD)
        refine ⟨(i4, ⟨some wb, wc⟩), ⟨hi4, (fun h => by cases h), by show way.length ≤ wc; omega, fun h => by have : wc = 0 := h; omega⟩, rfl, ⟨rfl, rfl, rfl, rfl, rfl, trivial⟩, wkE_refl _, .inr (.inr ⟨rfl, rfl, ?_, rfl, by omega, rfl⟩), wkE_refl _, trivial⟩
        rw [hway2, Nat.mul_one]
        simp [iC]
      | false =>
      rw [if_neg (of_decide_eq_false hun)]
      ((conv => whnf); (repeat ((first | refine LdN.one (a := some ⟨cb, 0, none⟩) (q := 0) (xs := [_, _, _, _, _]) _ rfl (fun w hw => hw.2.2.2.1) rfl ?_ | refine LdN.one (a := some ⟨cb, 0, none⟩) (q := 1) (xs := [_, _, _, _, _]) _ rfl (fun w hw => hw.2.2.2.1) rfl ?_ | refine LdN.one (a := some ⟨cb, 0, none⟩) (q := 2) (xs := [_, _, _, _, _]) _ rfl (fun w hw => hw.2.2.2.1) rfl ?_ | refine LdN.one (a := some ⟨cb, 0, none⟩) (q := 3) (xs := [_, _, _, _, _]) _ rfl (fun w hw => hw.2.2.2.1) rfl ?_ | refine LdN.one (a := some ⟨cb, 0, none⟩) (q := 4) (xs := [_, _, _, _, _]) _ rfl (fun w hw => hw.2.2.2.1) rfl ?_ | refine RwN.own ?_ | refine VrN.norm (wrap_i64 (by omega)) ?_ | refine VrN.keep ?_ | refine Nd.mk (by decide +kernel) ?_ | refine Nd.mk (by omega) ?_ | (refine Nd.mk ?_ ?_; focus ((repeat' (first | exact trivial | exact wkE_refl _ | refine And.intro ?_ ?_)); done)) | refine RdN.intro _ rfl (by rfl) ?_); (conv => whnf))))
      -- 8: the kind, [35, 60] ++ text: the front
      rw [← hway2]
      have hnd2 : way2.Nodup := by
        rw [hway2]
        exact List.nodup_append.2 ⟨hw, by simp, fun x hx y hy => by
          rw [List.mem_singleton.1 hy]
          intro e
          subst e
          exact of_decide_eq_false hun hx⟩
      have hr2 : ∀ x ∈ way2, 0 ≤ x ∧ x < (l.length : Int) := fun x hx => by
        rw [hway2] at hx
        rcases List.mem_append.1 hx with hx | hx
        · exact hr x hx
        · rw [List.mem_singleton.1 hx]; omega
      obtain ⟨ff, hff⟩ : ∃ ff, ff = fun o k => writeS 20000 (leafS qt it) (l.map (·.c)) m o way2 k := ⟨_, rfl⟩
      rw [← hff]
      have hfx : ∀ o x, ff o x = writeS 20000 (leafS qt it) (l.map (·.c)) m o way2 x := fun o x => by rw [hff]
      have hpre : ∀ i, (preT (Cell.mk 8 num text names items) i).length ≤ 50 := fun i => by
        have := pre_le hsh (u : Int) i
        rw [hat] at this
        exact this
      have hfold : ∀ k, (foldT ff (preT (Cell.mk 8 num text names items)) 0 (items.take k) (out ++ ([35, 60] ++ text))).length ≤ 130000000 := fun k => by
        have hfl : (out ++ ([35, 60] ++ text)).length ≤ out.length + 2002 := by simp; try omega
        have := foldT_len (M := 20000) (f := ff) (pre := preT (Cell.mk 8 num text names items)) (p := 50) (X := 20000 + m * 200000) hpre (by omega) (fun o k ho => by rw [hff]; exact write_same m o _ k ho) (fun o k ho => by rw [hff]; have := write_len (M := 20000) hsh m o way2 k; show (writeS _ _ _ _ _ _ _).length ≤ _; omega) (items.take k) 0 (out ++ ([35, 60] ++ text)) (22002 + m * 200000) (by omega) (by omega)
        rw [List.length_take] at this
        omega
      refine LoopN.intro (Nat × BSt × BSt) (fun ⟨k, i, j⟩ => k ≤ items.length ∧ i.ok (foldT ff (preT (Cell.mk 8 num text names items)) 0 (items.take k) (out ++ ([35, 60] ++ text))).length ∧ j.ok way2.length) (fun ⟨k, _, _⟩ => mkS Tryz.f99.ntmps 0 [(0, .c (.lp 0 0)), (5, .c (.v (.pointer (some ⟨cb, 0, none⟩)))), (8, .c (.v (.string (bs [62])))), (57, .c (.v (.slice ia items.length ic))), (58, .c (.v (.int .i64 (items.length : Int)))), (59, .c (.v (.int .i64 (k : Int))))])
        (fun ⟨k, i, j⟩ => wH (.slice a l.length ca) (gF a l E) true (foldT ff (preT (Cell.mk 8 num text names items)) 0 (items.take k) (out ++ ([35, 60] ++ text))) i way2 j ++ [.dead, .app 42 5 [.int .i64 8, .int .i64 num, .string (bs text), .slice na names.length nc, .slice ia items.length ic] (some ⟨cb, 0, none⟩) 1 1, .dead]) (fun ⟨k, _, _⟩ => items.length - k) [] rfl (fun ⟨_, _, _⟩ => rfl) (fun ⟨_, _, _⟩ => rfl) (fun ⟨_, _, _⟩ _ => okHB_eq rfl) ?_ ?_
      · refine ⟨(0, i2, ⟨some wb, wc⟩), ⟨Nat.zero_le _, hi2, (fun h => by cases h), by show way2.length ≤ wc; omega, fun h => by have : wc = 0 := h; omega⟩, ?_, wkE_refl _, wkE_refl _, wkE_refl _, wkE_refl _, trivial, wkE_refl _, trivial, trivial⟩
        (repeat' (first | exact trivial | refine And.intro (by with_reducible rfl) ?_ | (with_reducible exact wkC_refl _) | (with_reducible exact wkCs_refl _) | refine And.intro ?_ ?_))
        all_goals rfl
      rintro ⟨k, i3, j3⟩ ⟨hk3, hi3, hj3⟩
      ((conv => whnf); (repeat ((first | refine LdN.one (a := some ⟨cb, 0, none⟩) (q := 0) (xs := [_, _, _, _, _]) _ rfl (fun w hw => hw.2.2.2.1) rfl ?_ | refine LdN.one (a := some ⟨cb, 0, none⟩) (q := 1) (xs := [_, _, _, _, _]) _ rfl (fun w hw => hw.2.2.2.1) rfl ?_ | refine LdN.one (a := some ⟨cb, 0, none⟩) (q := 2) (xs := [_, _, _, _, _]) _ rfl (fun w hw => hw.2.2.2.1) rfl ?_ | refine LdN.one (a := some ⟨cb, 0, none⟩) (q := 3) (xs := [_, _, _, _, _]) _ rfl (fun w hw => hw.2.2.2.1) rfl ?_ | refine LdN.one (a := some ⟨cb, 0, none⟩) (q := 4) (xs := [_, _, _, _, _]) _ rfl (fun w hw => hw.2.2.2.1) rfl ?_ | refine RwN.own ?_ | refine VrN.norm (wrap_i64 (by omega)) ?_ | refine VrN.keep ?_ | refine Nd.mk (by decide +kernel) ?_ | refine Nd.mk (by omega) ?_ | (refine Nd.mk ?_ ?_; focus ((repeat' (first | exact trivial | exact wkE_refl _ | refine And.intro ?_ ?_)); done)) | refine RdN.intro _ rfl (by rfl) ?_); (conv => whnf))))
      refine brd_dec (fun h1 => ?_) (fun h1 => ?_)
      · obtain ⟨x, hx⟩ : ∃ x, items[k]? = some x := ⟨_, List.getElem?_eq_getElem (by omega)⟩
        have hxin := cellD_in hcd x (List.mem_of_getElem? hx)
        obtain ⟨xn, rfl⟩ : ∃ xn : Nat, x = (xn : Int) := ⟨x.toNat, by omega⟩
        have hx1 : xn < l.length := by omega
        have hsi : ia.isSome = true := by
          have := hpo.ia
          cases ia with
          | none =>
            have h0 : items = [] := this rfl
            rw [h0] at hx
            cases hx
          | some b => rfl
        have hln : names.length = items.length := cellD_lens hcd rfl
        obtain ⟨nm, hnm⟩ : ∃ nm, names[k]? = some nm := ⟨_, List.getElem?_eq_getElem (by omega)⟩
        have hnl40 : nm.length ≤ 40 := cellD_names hcd nm (List.mem_of_getElem? hnm)
        have hsn : na.isSome = true := by
          have := hpo.na
          cases na with
          | none =>
            have h0 : names = [] := this rfl
            rw [h0] at hnm
            cases hnm
          | some b => rfl
        ((conv => whnf); (repeat ((first | refine LdN.one (a := some ⟨cb, 0, none⟩) (q := 0) (xs := [_, _, _, _, _]) _ rfl (fun w hw => hw.2.2.2.1) rfl ?_ | refine LdN.one (a := some ⟨cb, 0, none⟩) (q := 1) (xs := [_, _, _, _, _]) _ rfl (fun w hw => hw.2.2.2.1) rfl ?_ | refine LdN.one (a := some ⟨cb, 0, none⟩) (q := 2) (xs := [_, _, _, _, _]) _ rfl (fun w hw => hw.2.2.2.1) rfl ?_ | refine LdN.one (a := some ⟨cb, 0, none⟩) (q := 3) (xs := [_, _, _, _, _]) _ rfl (fun w hw => hw.2.2.2.1) rfl ?_ | refine LdN.one (a := some ⟨cb, 0, none⟩) (q := 4) (xs := [_, _, _, _, _]) _ rfl (fun w hw => hw.2.2.2.1) rfl ?_ | refine RwN.own ?_ | refine VrN.norm (wrap_i64 (by omega)) ?_ | refine VrN.keep ?_ | refine Nd.mk (by decide +kernel) ?_ | refine Nd.mk (by omega) ?_ | (refine Nd.mk ?_ ?_; focus ((repeat' (first | exact trivial | exact wkE_refl _ | refine And.intro ?_ ?_)); done)) | refine RdN.intro _ rfl (by rfl) ?_); (conv => whnf))))
        refine Nd.mk ⟨hsi, by omega, by omega⟩ ?_
        ((conv => whnf); (repeat ((first | refine LdN.one (a := some ⟨cb, 0, none⟩) (q := 0) (xs := [_, _, _, _, _]) _ rfl (fun w hw => hw.2.2.2.1) rfl ?_ | refine LdN.one (a := some ⟨cb, 0, none⟩) (q := 1) (xs := [_, _, _, _, _]) _ rfl (fun w hw => hw.2.2.2.1) rfl ?_ | refine LdN.one (a := some ⟨cb, 0, none⟩) (q := 2) (xs := [_, _, _, _, _]) _ rfl (fun w hw => hw.2.2.2.1) rfl ?_ | refine LdN.one (a := some ⟨cb, 0, none⟩) (q := 3) (xs := [_, _, _, _, _]) _ rfl (fun w hw => hw.2.2.2.1) rfl ?_ | refine LdN.one (a := some ⟨cb, 0, none⟩) (q := 4) (xs := [_, _, _, _, _]) _ rfl (fun w hw => hw.2.2.2.1) rfl ?_ | refine RwN.own ?_ | refine VrN.norm (wrap_i64 (by omega)) ?_ | refine VrN.keep ?_ | refine Nd.mk (by decide +kernel) ?_ | refine Nd.mk (by omega) ?_ | (refine Nd.mk ?_ ?_; focus ((repeat' (first | exact trivial | exact wkE_refl _ | refine And.intro ?_ ?_)); done)) | refine RdN.intro _ rfl (by rfl) ?_); (conv => whnf))))
        refine LdN.one (.int .i64 (xn : Int)) rfl (fun w hw => (hw.2.2.1.1.2 _ hpm).2) (by rw [Int.toNat_natCast]; show (iC items)[k * 1]? = _; rw [Nat.mul_one]; exact iC_get hx) ?_
        ((conv => whnf); (repeat ((first | refine LdN.one (a := some ⟨cb, 0, none⟩) (q := 0) (xs := [_, _, _, _, _]) _ rfl (fun w hw => hw.2.2.2.1) rfl ?_ | refine LdN.one (a := some ⟨cb, 0, none⟩) (q := 1) (xs := [_, _, _, _, _]) _ rfl (fun w hw => hw.2.2.2.1) rfl ?_ | refine LdN.one (a := some ⟨cb, 0, none⟩) (q := 2) (xs := [_, _, _, _, _]) _ rfl (fun w hw => hw.2.2.2.1) rfl ?_ | refine LdN.one (a := some ⟨cb, 0, none⟩) (q := 3) (xs := [_, _, _, _, _]) _ rfl (fun w hw => hw.2.2.2.1) rfl ?_ | refine LdN.one (a := some ⟨cb, 0, none⟩) (q := 4) (xs := [_, _, _, _, _]) _ rfl (fun w hw => hw.2.2.2.1) rfl ?_ | refine RwN.own ?_ | refine VrN.norm (wrap_i64 (by omega)) ?_ | refine VrN.keep ?_ | refine Nd.mk (by decide +kernel) ?_ | refine Nd.mk (by omega) ?_ | (refine Nd.mk ?_ ?_; focus ((repeat' (first | exact trivial | exact wkE_refl _ | refine And.intro ?_ ?_)); done)) | refine RdN.intro _ rfl (by rfl) ?_); (conv => whnf))))
        refine DrawN.planK hm (fun w => SlAt (some ⟨cb, 0, none⟩) 5 [.int .i64 8, .int .i64 num, .string (bs text), .slice na names.length nc, .slice ia items.length ic] w ∧ SlAt na (names.length * 1) (strC names) w) [3] [0, 4, 8, 10] [(1, 1), (2, 1), (5, 1), (9, 1), (11, 1), (12, 1), (3, 2), (6, 0), (7, 0), (13, 0), (14, 0), (15, 0)] (by decide +kernel) (fun w hw => ⟨hw.2.2.2.1, (hw.2.2.1.1.2 _ hpm).1⟩) ?_
        -- fun w hw => ⟨hw.2.2.2.1, (hw.2.2.1.1.2 _ hpm).1⟩: why the kind holds
        ((conv => whnf); (repeat ((first | refine Nd.mk (fun w hw => ⟨hw.2.2.2.1, (hw.2.2.1.1.2 _ hpm).1⟩) ?_ | refine VrN.norm (wrap_i64 (by omega)) ?_ | refine VrN.keep ?_ | refine Nd.mk (by decide +kernel) ?_ | refine Nd.mk (by omega) ?_ | refine RdN.intro _ rfl (by rfl) ?_); (conv => whnf))))
        refine BlindW.min2 (x := .tmp 68) (y := .const (.int .i64 1)) (a := (k : Int)) (b := 1) rfl rfl ?_ rfl ?_
        · rfl
        -- fun w hw => ⟨hw.2.2.2.1, (hw.2.2.1.1.2 _ hpm).1⟩: why the kind holds
        ((conv => whnf); (repeat ((first | refine Nd.mk (fun w hw => ⟨hw.2.2.2.1, (hw.2.2.1.1.2 _ hpm).1⟩) ?_ | refine VrN.norm (wrap_i64 (by omega)) ?_ | refine VrN.keep ?_ | refine Nd.mk (by decide +kernel) ?_ | refine Nd.mk (by omega) ?_ | refine RdN.intro _ rfl (by rfl) ?_); (conv => whnf))))
        refine ReadC.one (T := 40) (x := .tmp 72) (a := some ⟨cb, 0, none⟩) (q := 3) (k := 5) (xs := [.int .i64 8, .int .i64 num, .string (bs text), .slice na names.length nc, .slice ia items.length ic]) (.slice na names.length nc) ?_ ?_ ?_ ?_ ?_ ?_
        · rfl
        · rfl
        · rfl
        · exact fun w hw => hw.1
        · rfl
        -- fun w hw => ⟨hw.2.2.2.1, (hw.2.2.1.1.2 _ hpm).1⟩: why the kind holds
        ((conv => whnf); (repeat ((first | refine Nd.mk (fun w hw => ⟨hw.2.2.2.1, (hw.2.2.1.1.2 _ hpm).1⟩) ?_ | refine VrN.norm (wrap_i64 (by omega)) ?_ | refine VrN.keep ?_ | refine Nd.mk (by decide +kernel) ?_ | refine Nd.mk (by omega) ?_ | refine RdN.intro _ rfl (by rfl) ?_); (conv => whnf))))
        refine ReadC.idxA (T := 40) (x := .tmp 73) (i := .tmp 74) (kk := .i64) (e := 9) (sz := 1) (a := na) (n := names.length) (cap := nc) k rfl Tryz.underlying40 rfl rfl ?_ ?_ hsn (by omega) ?_
        · rfl
        · rfl
        -- fun w hw => ⟨hw.2.2.2.1, (hw.2.2.1.1.2 _ hpm).1⟩: why the kind holds
        ((conv => whnf); (repeat ((first | refine Nd.mk (fun w hw => ⟨hw.2.2.2.1, (hw.2.2.1.1.2 _ hpm).1⟩) ?_ | refine VrN.norm (wrap_i64 (by omega)) ?_ | refine VrN.keep ?_ | refine Nd.mk (by decide +kernel) ?_ | refine Nd.mk (by omega) ?_ | refine RdN.intro _ rfl (by rfl) ?_); (conv => whnf))))
        refine ReadC.one (T := 9) (x := .tmp 75) (a := na) (q := k * 1) (k := names.length * 1) (xs := strC names) (.string (bs nm)) ?_ ?_ ?_ ?_ ?_ ?_
        · rfl
        · rfl
        · rfl
        · exact fun w hw => hw.2
        · rw [Nat.mul_one]; exact strC_get hnm
        -- fun w hw => ⟨hw.2.2.2.1, (hw.2.2.1.1.2 _ hpm).1⟩: why the kind holds
        ((conv => whnf); (repeat ((first | refine Nd.mk (fun w hw => ⟨hw.2.2.2.1, (hw.2.2.1.1.2 _ hpm).1⟩) ?_ | refine VrN.norm (wrap_i64 (by omega)) ?_ | refine VrN.keep ?_ | refine Nd.mk (by decide +kernel) ?_ | refine Nd.mk (by omega) ?_ | refine RdN.intro _ rfl (by rfl) ?_); (conv => whnf))))
        intro rb
        -- fun w hw => ⟨hw.2.2.2.1, (hw.2.2.1.1.2 _ hpm).1⟩: why the kind holds
        ((conv => whnf); (repeat ((first | refine Nd.mk (fun w hw => ⟨hw.2.2.2.1, (hw.2.2.1.1.2 _ hpm).1⟩) ?_ | refine VrN.norm (wrap_i64 (by omega)) ?_ | refine VrN.keep ?_ | refine Nd.mk (by decide +kernel) ?_ | refine Nd.mk (by omega) ?_ | refine RdN.intro _ rfl (by rfl) ?_); (conv => whnf))))
        refine Nd.mk ⟨rfl, by unfold minI; split <;> omega, by unfold minI; split <;> omega⟩ ?_
        -- fun w hw => ⟨hw.2.2.2.1, (hw.2.2.1.1.2 _ hpm).1⟩: why the kind holds
        ((conv => whnf); (repeat ((first | refine Nd.mk (fun w hw => ⟨hw.2.2.2.1, (hw.2.2.1.1.2 _ hpm).1⟩) ?_ | refine VrN.norm (wrap_i64 (by omega)) ?_ | refine VrN.keep ?_ | refine Nd.mk (by decide +kernel) ?_ | refine Nd.mk (by omega) ?_ | refine RdN.intro _ rfl (by rfl) ?_); (conv => whnf))))
        obtain ⟨sp, hsp⟩ : ∃ sp : List UInt8, sp = if k = 0 then [32] else [44, 32] := ⟨_, rfl⟩
        have hspl : sp.length ≤ 2 := by rw [hsp]; split <;> simp
        refine LdN.one (a := some ⟨rb, 0, none⟩) (xs := [.string { data := #[32] }, .string { data := #[44, 32] }]) (.string (bs sp)) rfl (fun w hw => hw.2.2.2.2.1) ?_ ?_
        · rw [hsp]
          rcases Nat.eq_zero_or_pos k with hk0 | hk0
          · rw [if_pos hk0, hk0]; rfl
          · rw [if_neg (by omega), show minI (k : Int) 1 = if k = 1 then 1 else 1 by unfold minI; split <;> split <;> omega]
            split <;> rfl
        -- fun w hw => ⟨hw.2.2.2.1, (hw.2.2.1.1.2 _ hpm).1⟩: why the kind holds
        ((conv => whnf); (repeat ((first | refine Nd.mk (fun w hw => ⟨hw.2.2.2.1, (hw.2.2.1.1.2 _ hpm).1⟩) ?_ | refine VrN.norm (wrap_i64 (by omega)) ?_ | refine VrN.keep ?_ | refine Nd.mk (by decide +kernel) ?_ | refine Nd.mk (by omega) ?_ | refine RdN.intro _ rfl (by rfl) ?_); (conv => whnf))))
        refine Nd.mk (by rw [bs_size, bs_size]; omega) ?_
        rw [bs_app]
        -- fun w hw => ⟨hw.2.2.2.1, (hw.2.2.1.1.2 _ hpm).1⟩: why the kind holds
        ((conv => whnf); (repeat ((first | refine Nd.mk (fun w hw => ⟨hw.2.2.2.1, (hw.2.2.1.1.2 _ hpm).1⟩) ?_ | refine VrN.norm (wrap_i64 (by omega)) ?_ | refine VrN.keep ?_ | refine Nd.mk (by decide +kernel) ?_ | refine Nd.mk (by omega) ?_ | refine RdN.intro _ rfl (by rfl) ?_); (conv => whnf))))
        refine Nd.mk (by show (bs (sp ++ nm)).size + 1 < _; rw [bs_size]; simp; omega) ?_
        rw [show (bs (sp ++ nm) ++ ({ data := #[61] } : ByteArray)) = bs (sp ++ nm ++ [61]) by rw [← bs_app]; rfl]
        -- fun w hw => ⟨hw.2.2.2.1, (hw.2.2.1.1.2 _ hpm).1⟩: why the kind holds
        ((conv => whnf); (repeat ((first | refine Nd.mk (fun w hw => ⟨hw.2.2.2.1, (hw.2.2.1.1.2 _ hpm).1⟩) ?_ | refine VrN.norm (wrap_i64 (by omega)) ?_ | refine VrN.keep ?_ | refine Nd.mk (by decide +kernel) ?_ | refine Nd.mk (by omega) ?_ | refine RdN.intro _ rfl (by rfl) ?_); (conv => whnf))))
        have hnd : names.getD k [] = nm := by rw [List.getD_eq_getElem?_getD, hnm]; rfl
        refine callG (WriteString_w _ _ way2 j3 true (foldT ff (preT (Cell.mk 8 num text names items)) 0 (items.take k) (out ++ ([35, 60] ++ text))) (sp ++ nm ++ [61]) i3 hi3 (by have := hfold k; simp only [List.length_append, List.length_cons, List.length_nil] at this ⊢; omega)) [0, 1, 2, 3] rfl ⟨rfl, rfl, rfl, rfl, trivial⟩ rfl fun i6 hi6 => ?_
        -- fun w hw => ⟨hw.2.2.2.1, (hw.2.2.1.1.2 _ hpm).1⟩: why the kind holds
        ((conv => whnf); (repeat ((first | refine Nd.mk (fun w hw => ⟨hw.2.2.2.1, (hw.2.2.1.1.2 _ hpm).1⟩) ?_ | refine VrN.norm (wrap_i64 (by omega)) ?_ | refine VrN.keep ?_ | refine Nd.mk (by decide +kernel) ?_ | refine Nd.mk (by omega) ?_ | refine RdN.intro _ rfl (by rfl) ?_); (conv => whnf))))
        ((conv => whnf); (repeat ((first | refine LdN.one (a := some ⟨cb, 0, none⟩) (q := 0) (xs := [_, _, _, _, _]) _ rfl (fun w hw => hw.2.2.2.1) rfl ?_ | refine LdN.one (a := some ⟨cb, 0, none⟩) (q := 1) (xs := [_, _, _, _, _]) _ rfl (fun w hw => hw.2.2.2.1) rfl ?_ | refine LdN.one (a := some ⟨cb, 0, none⟩) (q := 2) (xs := [_, _, _, _, _]) _ rfl (fun w hw => hw.2.2.2.1) rfl ?_ | refine LdN.one (a := some ⟨cb, 0, none⟩) (q := 3) (xs := [_, _, _, _, _]) _ rfl (fun w hw => hw.2.2.2.1) rfl ?_ | refine LdN.one (a := some ⟨cb, 0, none⟩) (q := 4) (xs := [_, _, _, _, _]) _ rfl (fun w hw => hw.2.2.2.1) rfl ?_ | refine RwN.own ?_ | refine VrN.norm (wrap_i64 (by omega)) ?_ | refine VrN.keep ?_ | refine Nd.mk (by decide +kernel) ?_ | refine Nd.mk (by omega) ?_ | (refine Nd.mk ?_ ?_; focus ((repeat' (first | exact trivial | exact wkE_refl _ | refine And.intro ?_ ?_)); done)) | refine RdN.intro _ rfl (by rfl) ?_); (conv => whnf))))
        refine callG (ih (by omega) (foldT ff (preT (Cell.mk 8 num text names items)) 0 (items.take k) (out ++ ([35, 60] ++ text)) ++ (sp ++ nm ++ [61])) way2 i6 j3 xn hi6 hj3 hx1 hnd2 hr2 (by omega) (by have := hfold k; simp only [List.length_append, List.length_cons, List.length_nil] at this ⊢; omega)) [0, 1, 2, 3] rfl ⟨rfl, rfl, rfl, rfl, trivial⟩ rfl fun st hst => ?_
        obtain ⟨i5, j5⟩ := st
        obtain ⟨hi5, hj5⟩ := hst
        simp only at hi5 hj5
        ((conv => whnf); (repeat ((first | refine LdN.one (a := some ⟨cb, 0, none⟩) (q := 0) (xs := [_, _, _, _, _]) _ rfl (fun w hw => hw.2.2.2.1) rfl ?_ | refine LdN.one (a := some ⟨cb, 0, none⟩) (q := 1) (xs := [_, _, _, _, _]) _ rfl (fun w hw => hw.2.2.2.1) rfl ?_ | refine LdN.one (a := some ⟨cb, 0, none⟩) (q := 2) (xs := [_, _, _, _, _]) _ rfl (fun w hw => hw.2.2.2.1) rfl ?_ | refine LdN.one (a := some ⟨cb, 0, none⟩) (q := 3) (xs := [_, _, _, _, _]) _ rfl (fun w hw => hw.2.2.2.1) rfl ?_ | refine LdN.one (a := some ⟨cb, 0, none⟩) (q := 4) (xs := [_, _, _, _, _]) _ rfl (fun w hw => hw.2.2.2.1) rfl ?_ | refine RwN.own ?_ | refine VrN.norm (wrap_i64 (by omega)) ?_ | refine VrN.keep ?_ | refine Nd.mk (by decide +kernel) ?_ | refine Nd.mk (by omega) ?_ | (refine Nd.mk ?_ ?_; focus ((repeat' (first | exact trivial | exact wkE_refl _ | refine And.intro ?_ ?_)); done)) | refine RdN.intro _ rfl (by rfl) ?_); (conv => whnf))))
        have hfs := foldT_take (f := ff) (pre := preT (Cell.mk 8 num text names items)) hx (out ++ ([35, 60] ++ text))
        rw [show preT (Cell.mk 8 num text names items) k = sp ++ nm ++ [61] from by rw [preT_8 rfl, ← hsp]; show sp ++ names.getD k [] ++ [61] = _; rw [hnd], hfx] at hfs
        refine ⟨(k + 1, i5, j5), ⟨by omega, by rw [hfs]; exact hi5, hj5⟩, by show items.length - (k + 1) < items.length - k; omega, ?_, ?_⟩
        · (repeat' (first | exact trivial | refine And.intro (by with_reducible rfl) ?_ | (with_reducible exact wkC_refl _) | (with_reducible exact wkCs_refl _) | refine And.intro ?_ ?_))
          all_goals first | rfl | exact av_int (by rw [wrap_i64 (by omega)]; omega) | exact av_int (by omega)
        · show wkH _ (wH _ _ true (foldT ff _ 0 (items.take (k + 1)) _) _ _ _ ++ _)
          rw [hfs]
          exact ⟨wkE_refl _, wkE_refl _, wkE_refl _, wkE_refl _, trivial, wkE_refl _, trivial, trivial⟩
      · have hin : k = items.length := by omega
        subst hin
        rw [List.take_length] at hi3 ⊢
        have hfe := hfold items.length
        rw [List.take_length] at hfe
        obtain ⟨wb, wc⟩ := j3
        cases wb with
        | none =>
          have := (hj3.1 rfl).1
          omega
        | some wb =>
        have hwc3 : way2.length ≤ wc := hj3.2.1
        ((conv => whnf); (repeat ((first | refine LdN.one (a := some ⟨cb, 0, none⟩) (q := 0) (xs := [_, _, _, _, _]) _ rfl (fun w hw => hw.2.2.2.1) rfl ?_ | refine LdN.one (a := some ⟨cb, 0, none⟩) (q := 1) (xs := [_, _, _, _, _]) _ rfl (fun w hw => hw.2.2.2.1) rfl ?_ | refine LdN.one (a := some ⟨cb, 0, none⟩) (q := 2) (xs := [_, _, _, _, _]) _ rfl (fun w hw => hw.2.2.2.1) rfl ?_ | refine LdN.one (a := some ⟨cb, 0, none⟩) (q := 3) (xs := [_, _, _, _, _]) _ rfl (fun w hw => hw.2.2.2.1) rfl ?_ | refine LdN.one (a := some ⟨cb, 0, none⟩) (q := 4) (xs := [_, _, _, _, _]) _ rfl (fun w hw => hw.2.2.2.1) rfl ?_ | refine RwN.own ?_ | refine VrN.norm (wrap_i64 (by omega)) ?_ | refine VrN.keep ?_ | refine Nd.mk (by decide +kernel) ?_ | refine Nd.mk (by omega) ?_ | (refine Nd.mk ?_ ?_; focus ((repeat' (first | exact trivial | exact wkE_refl _ | refine And.intro ?_ ?_)); done)) | refine RdN.intro _ rfl (by rfl) ?_); (conv => whnf))))
        refine callG (WriteString_w _ _ way2 ⟨some wb, wc⟩ true (foldT ff (preT (Cell.mk 8 num text names items)) 0 items (out ++ ([35, 60] ++ text))) [62] i3 hi3 (by simp only [List.length_cons, List.length_nil]; omega)) [0, 1, 2, 3] rfl ⟨rfl, rfl, rfl, rfl, trivial⟩ rfl fun i7 hi7 => ?_
        ((conv => whnf); (repeat ((first | refine LdN.one (a := some ⟨cb, 0, none⟩) (q := 0) (xs := [_, _, _, _, _]) _ rfl (fun w hw => hw.2.2.2.1) rfl ?_ | refine LdN.one (a := some ⟨cb, 0, none⟩) (q := 1) (xs := [_, _, _, _, _]) _ rfl (fun w hw => hw.2.2.2.1) rfl ?_ | refine LdN.one (a := some ⟨cb, 0, none⟩) (q := 2) (xs := [_, _, _, _, _]) _ rfl (fun w hw => hw.2.2.2.1) rfl ?_ | refine LdN.one (a := some ⟨cb, 0, none⟩) (q := 3) (xs := [_, _, _, _, _]) _ rfl (fun w hw => hw.2.2.2.1) rfl ?_ | refine LdN.one (a := some ⟨cb, 0, none⟩) (q := 4) (xs := [_, _, _, _, _]) _ rfl (fun w hw => hw.2.2.2.1) rfl ?_ | refine RwN.own ?_ | refine VrN.norm (wrap_i64 (by omega)) ?_ | refine VrN.keep ?_ | refine Nd.mk (by decide +kernel) ?_ | refine Nd.mk (by omega) ?_ | (refine Nd.mk ?_ ?_; focus ((repeat' (first | exact trivial | exact wkE_refl _ | refine And.intro ?_ ?_)); done)) | refine RdN.intro _ rfl (by rfl) ?_); (conv => whnf))))
        -- i7: the Builder's place
        refine DrawN.plan [0, 1, 5] [(2, 1), (3, 1), (4, 1), (6, 1), (7, 1), (8, 1), (9, 1), (10, 1), (11, 1), (12, 1), (13, 1)] [(14, 0)] (by decide +kernel) ?_
        (first | refine wXD ?_ | exact wZD)
        rw [show IntKind.i64.wrap ((way2.length : Int) - 1) = (way.length : Int) by rw [wrap_i64 (by omega)]; omega]
        refine ReadW.slc_hi rfl (by kernel_rfl) rfl rfl (by show (0 : Int) ≤ (way.length : Int) ∧ (way.length : Int) ≤ (wc : Int); omega) ?_
        rw [Int.toNat_natCast]
        (first | refine wXD ?_ | exact wZD)
        refine ⟨(i7, ⟨some wb, wc⟩), ⟨hi7, (fun h => by cases h), by show way.length ≤ wc; omega, fun h => by have : wc = 0 := h; omega⟩, rfl, ⟨rfl, rfl, rfl, rfl, rfl, trivial⟩, wkE_refl _, .inr (.inr ⟨rfl, rfl, ?_, rfl, by omega, rfl⟩), wkE_refl _, trivial⟩
        rw [hway2, Nat.mul_one]
        simp [iC]
end Go.Proofs.YtahjbnfbilkbcaaGreatDoor
