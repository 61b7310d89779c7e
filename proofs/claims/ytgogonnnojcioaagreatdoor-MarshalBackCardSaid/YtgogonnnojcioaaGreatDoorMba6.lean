/-
  Lemmas (C9 Ax49 V1 Ax50 V2 P11 C11 Ax47 D1 C12 C13 W1 P12 W2 P13 P14 X1 Ax51 X2 Ax52 X3 P15 MP1 LB3 MC1 MP2 MC2 Ax53).
-/
import Derived.RangeFuncBox
import Derived.RangeFuncLeaves
import Derived.Shelf.Abstract
import Derived.WalkKit
import Derived.OwnWalkIn
import Derived.TacticsInMore
import Derived.LoopNIn
import Derived.LoopIn
import Derived.Maps.AppendAt
import Derived.Laws.AppendOwn
import Derived.Sort.OwnSorted
import Derived.Lib.SlicesCompact
import Derived.WideKeyRuns
import Derived.Test.YtgogonnnojcioaaGreatDoorMba5
set_option linter.unusedVariables false
set_option linter.unusedSimpArgs false
namespace Go.Core
def ValidP (g : List Cell) : Prop := g.length ≤ 500 ∧ (∀ c ∈ g, cellD g.length c = true) ∧ ∀ c ∈ g, c.kind = 7 → ¬ Twice g c.items
theorem cellD_in {n : Nat} {c : Cell} (h : cellD n c = true) : ∀ x ∈ c.items, 0 ≤ x ∧ x < (n : Int) := by
 unfold cellD at h
 simp only [Bool.and_eq_true] at h
 intro x hx
 have := List.all_eq_true.1 h.1.1 x hx
 simpa using this
end Go.Core
namespace Go.Proofs.YtgogonnnojcioaaGreatDoor
open Go.AX Go.RowKit Go.Core Go.Scan
set_option maxRecDepth 20000
set_option maxHeartbeats 4000000 in
theorem Valid_c (a : Option Addr) (ca : Nat) (l : List CellP) (ha : a = none → l = []) (hl : l.length ≤ 200000000000000) (hok : ∀ p ∈ l, CellOk p) :
  ∀ H, (∀ w, Facts H w → GrF a l w) → ∃ b : Bool, (b = true ↔ ValidP (l.map (·.c))) ∧ SpecH Tryz.prog 31 (pvs [.slice a l.length ca]) H (Ret (.bool b) H) := by
 intro H hH
 obtain ⟨b, hb⟩ : ∃ b : Bool, b = true ↔ ValidP (l.map (·.c)) := by
  by_cases h : ValidP (l.map (·.c))
  ·exact ⟨true, fun _ => h, fun _ => rfl⟩
  ·exact ⟨false, (fun h => by cases h), fun h2 => absurd h2 h⟩
 refine ⟨b, hb, ?_⟩
 have hml : (l.map (·.c)).length = l.length := by simp
 have hno : ¬ ValidP (l.map (·.c)) → false = b := fun h => by
  cases b with
  | false => rfl
  | true => exact absurd (hb.1 rfl) h
 refine factC hm Tryz.func31 (by kernel_rfl) rfl rfl ?_ H hH
 refine wX ?_
 refine brd_dec (fun h0 => ?_) (fun h0 => ?_)
 ·refine wX ?_
  exact out_bool (hno fun h => by have := h.1; omega)
 refine wX ?_
 refine loopS Nat (fun i => i ≤ l.length ∧ ∀ p ∈ l.take i, cellD l.length p.c = true) (fun i => mkS Tryz.f31.ntmps 0 [(0, .c (.v (.slice a l.length ca))), (3, .c (.v (.int .i64 (i : Int))))]) (fun i => l.length - i) rfl (fun _ => rfl) 0 ⟨Nat.zero_le _, by simp⟩ ?_ ?_
 ·exact wKK
 intro i ⟨hi, hc⟩
 refine wX ?_
 refine brd_dec (fun h1 => ?_) (fun h1 => ?_)
 ·obtain ⟨p, hp⟩ : ∃ p, l[i]? = some p := ⟨_, List.getElem?_eq_getElem (by omega)⟩
  have hpm := List.mem_of_getElem? hp
  have hsa : a.isSome = true := by
   cases a with
   | none => rw [ha rfl] at hp; cases hp
   | some b => rfl
  refine wX ?_
  refine Nd.mk ⟨hsa, by omega, by omega⟩ ?_
  refine wX ?_
  refine LdN.agg (cellC p) rfl (fun w hw => hw.1.1) rfl (fun k hk => by rw [Int.toNat_natCast]; exact grC_get l i k hk hp) ?_
  refine wX ?_
  refine call1 (cell_c a ca l.length hl p (hok p hpm) _ (fun w hw => hw.1.2 p hpm)) ?_
  cases hcd : cellD l.length p.c with
  | false =>
   refine wX ?_
   exact out_bool (hno fun h => by
    have := h.2.1 p.c (List.mem_map.2 ⟨p, hpm, rfl⟩)
    rw [hml, hcd] at this
    cases this)
  | true =>
   refine wX ?_
   refine ⟨i + 1, ⟨by omega, all_step hc hp hcd⟩, by omega, ?_, wHH⟩
   exact wKK
 have hil : i = l.length := by omega
 subst hil
 rw [List.take_length] at hc
 clear h1
 refine wX ?_
 refine loopS Nat (fun i => i ≤ l.length ∧ ∀ p ∈ l.take i, p.c.kind = 7 → ¬ Twice (l.map (·.c)) p.c.items) (fun i => mkS Tryz.f31.ntmps 0 [(0, .c (.v (.slice a l.length ca))), (4, .c (.v (.int .i64 (i : Int))))]) (fun i => l.length - i) rfl (fun _ => rfl) 0 ⟨Nat.zero_le _, by simp⟩ ?_ ?_
 ·exact wKK
 intro i ⟨hi, ht⟩
 refine wX ?_
 refine brd_dec (fun h1 => ?_) (fun h1 => ?_)
 ·obtain ⟨p, hp⟩ : ∃ p, l[i]? = some p := ⟨_, List.getElem?_eq_getElem (by omega)⟩
  have hpm := List.mem_of_getElem? hp
  have hpo := hok p hpm
  have hpil := hpo.il
  have hsa : a.isSome = true := by
   cases a with
   | none => rw [ha rfl] at hp; cases hp
   | some b => rfl
  refine wX ?_
  refine Nd.mk ⟨hsa, by omega, by omega⟩ ?_
  refine wX ?_
  refine LdN.fld (.int .i64 p.c.kind) rfl (fun w hw => hw.1.1) (by rw [Int.toNat_natCast]; exact grC_get l i 0 (by decide) hp) ?_
  refine wX ?_
  refine brd_ne (fun h7 => ?_) (fun h7 => ?_)
  ·refine wX ?_
   refine ⟨i + 1, ⟨by omega, all_step ht hp (fun h => absurd h h7)⟩, by omega, ?_, wHH⟩
   exact wKK
  refine wX ?_
  refine Nd.mk ⟨hsa, by omega, by omega⟩ ?_
  refine wX ?_
  refine LdN.fld (.slice p.ia p.c.items.length p.ic) rfl (fun w hw => hw.1.1) (by rw [Int.toNat_natCast]; exact grC_get l i 4 (by decide) hp) ?_
  refine wX ?_
  have hin := cellD_in (hc p hpm)
  refine loopS Nat (fun u => u ≤ p.c.items.length + 1 ∧ u % 2 = 0 ∧ ∀ i' k, k < i' → i' < u → i' < p.c.items.length → i' % 2 = 0 → k % 2 = 0 → keyB (l.map (·.c)) (p.c.items.getD i' 0) (p.c.items.getD k 0) = false) (fun u => mkS Tryz.f31.ntmps 0 [(0, .c (.v (.slice a l.length ca))), (4, .c (.v (.int .i64 (i : Int)))), (5, .c (.v (.slice p.ia p.c.items.length p.ic))), (6, .c (.v (.int .i64 (u : Int))))]) (fun u => p.c.items.length + 2 - u) rfl (fun _ => rfl) 0 ⟨Nat.zero_le _, rfl, fun _ _ _ h => by omega⟩ ?_ ?_
  ·exact wKK
  intro u ⟨hu, hu2, hno2⟩
  refine wX ?_
  refine brd_dec (fun h2 => ?_) (fun h2 => ?_)
  ·obtain ⟨x, hx⟩ : ∃ x, p.c.items[u]? = some x := ⟨_, List.getElem?_eq_getElem (by omega)⟩
   have hsi : p.ia.isSome = true := by
    cases hna : p.ia with
    | none => rw [hpo.ia hna] at hx; cases hx
    | some b => rfl
   refine wX ?_
   refine loopS Nat (fun k => k ≤ u + 1 ∧ k % 2 = 0 ∧ ∀ k', k' < k → k' < u → k' % 2 = 0 → keyB (l.map (·.c)) (p.c.items.getD u 0) (p.c.items.getD k' 0) = false) (fun k => mkS Tryz.f31.ntmps 0 [(0, .c (.v (.slice a l.length ca))), (4, .c (.v (.int .i64 (i : Int)))), (5, .c (.v (.slice p.ia p.c.items.length p.ic))), (6, .c (.v (.int .i64 (u : Int)))), (7, .c (.v (.int .i64 (k : Int))))]) (fun k => u + 2 - k) rfl (fun _ => rfl) 0 ⟨Nat.zero_le _, rfl, fun _ h => by omega⟩ ?_ ?_
   ·exact wKK
   intro k ⟨hk, hk2, hnk⟩
   refine wX ?_
   refine brd_dec (fun h3 => ?_) (fun h3 => ?_)
   ·obtain ⟨y, hy⟩ : ∃ y, p.c.items[k]? = some y := ⟨_, List.getElem?_eq_getElem (by omega)⟩
    obtain ⟨hx0, hx1⟩ := hin x (List.mem_of_getElem? hx)
    obtain ⟨hy0, hy1⟩ := hin y (List.mem_of_getElem? hy)
    obtain ⟨xn, rfl⟩ : ∃ xn : Nat, x = (xn : Int) := ⟨x.toNat, by omega⟩
    obtain ⟨yn, rfl⟩ : ∃ yn : Nat, y = (yn : Int) := ⟨y.toNat, by omega⟩
    obtain ⟨q, hq⟩ : ∃ q, l[xn]? = some q := ⟨_, List.getElem?_eq_getElem (by omega)⟩
    obtain ⟨r, hr⟩ : ∃ r, l[yn]? = some r := ⟨_, List.getElem?_eq_getElem (by omega)⟩
    have hke : keyB (l.map (·.c)) (p.c.items.getD u 0) (p.c.items.getD k 0) = (decide ((xn : Int) = yn) || oneKeyB q.c r.c) := by
     rw [List.getD_eq_getElem?_getD, List.getD_eq_getElem?_getD, hx, hy]
     show keyB _ (xn : Int) (yn : Int) = _
     unfold keyB
     rw [at_map hq, at_map hr]
    refine wX ?_
    refine Nd.mk ⟨hsi, by omega, by omega⟩ ?_
    refine wX ?_
    refine LdN.one (.int .i64 (xn : Int)) rfl (fun w hw => (hw.1.2 p hpm).2) (by rw [Int.toNat_natCast]; show (iC p.c.items)[u * 1]? = _; rw [Nat.mul_one]; exact iC_get (by assumption)) ?_
    refine wX ?_
    refine Nd.mk ⟨hsi, by omega, by omega⟩ ?_
    refine wX ?_
    refine LdN.one (.int .i64 (yn : Int)) rfl (fun w hw => (hw.1.2 p hpm).2) (by rw [Int.toNat_natCast]; show (iC p.c.items)[k * 1]? = _; rw [Nat.mul_one]; exact iC_get (by assumption)) ?_
    refine wX ?_
    have hoc := okey_c a ca l xn yn q r hq hr ha hl
    rw [← hke] at hoc
    refine callQ (hoc _ ?_) ?_
    ·exact fun w hw => hw.1
    cases hkb : keyB (l.map (·.c)) (p.c.items.getD u 0) (p.c.items.getD k 0) with
    | true =>
     refine wX ?_
     exact out_bool (hno fun h => h.2.2 p.c (List.mem_map.2 ⟨p, hpm, rfl⟩) h7 ⟨u, k, by omega, by omega, hu2, hk2, hkb⟩)
    | false =>
     refine wX ?_
     refine ⟨k + 2, ⟨by omega, by omega, fun k' h4 h5 h6 => ?_⟩, by omega, ?_, wHH⟩
     ·by_cases e : k' = k
      ·subst e; exact hkb
      ·exact hnk k' (by omega) h5 h6
     ·exact wKK
   ·refine wX ?_
    refine ⟨u + 2, ⟨by omega, by omega, fun i' k' g3 g4 g5 g6 g8 => ?_⟩, by omega, ?_, wHH⟩
    ·by_cases e : i' = u
     ·subst e; exact hnk k' (by omega) g3 g8
     ·exact hno2 i' k' g3 (by omega) g5 g6 g8
    ·exact wKK
  ·refine wX ?_
   refine ⟨i + 1, ⟨by omega, all_step ht hp (fun _ ⟨i', k, h3, h4, h5, h6, h8⟩ => by rw [hno2 i' k h3 (by omega) h4 h5 h6] at h8; cases h8)⟩, by omega, ?_, wHH⟩
   exact wKK
 ·have hil : i = l.length := by omega
  subst hil
  rw [List.take_length] at ht
  refine wX ?_
  refine out_bool (hb.2 ⟨by omega, fun c hcm => ?_, fun c hcm => ?_⟩).symm
  ·obtain ⟨p, hp, rfl⟩ := List.mem_map.1 hcm
   rw [hml]
   exact hc p hp
  ·obtain ⟨p, hp, rfl⟩ := List.mem_map.1 hcm
   exact ht p hp
end Go.Proofs.YtgogonnnojcioaaGreatDoor
namespace Go.AX
def frontK (P : Program) (C : World → Prop) (o : Oper) (s : List AV) (K : AV → Prop) : Prop :=
 match o.op with
 | .load _ _ => ∃ x, ReadC P C o s K x
 | .indexAddr _ _ _ => ∃ x, ReadC P C o s K x
 | _ => blindK P o s K
def execF (P : Program) (C : World → Prop) (ops : Array Oper) (l : List Nat) : List AV → (List AV → Prop) → Prop :=
 List.rec (motive := fun _ => List AV → (List AV → Prop) → Prop)
  (fun s K => K s)
  (fun k _ ih s K => pickK ops k fun o => wantK ops o s (fun s => frontK P C o s fun av => putK s o.dst av fun s' => ih s' K)
   (fun s => putK s o.dst (.c (.v undef)) fun s' => ih s' K)) l
def stepJ (P : Program) (ops : Array Oper) (i : Nat) (s : List AV) (H : List Ent) (K : Ex → List AV → List Ent → Prop) (J : List AV → List Ent → Prop) : Prop :=
 pickK ops i fun o => wantK ops o s (fun s => stepK P o s H fun out H' => match out with
  | .val av => putK s o.dst av fun s' => J s' H'
  | .vals _ => False
  | .pan c => K (.pan c) s H') (fun s => putK s o.dst (.c (.v undef)) fun s' => J s' H)
def ClosedJ (P : Program) (ops : Array Oper) (C : World → Prop) (K : Ex → List AV → List Ent → Prop) (J : Nat → Array Bool → List AV → List Ent → Prop) : Prop :=
 ∀ n ls s H, J n ls s H → (∀ w, Facts H w → C w) ∧ ((Region.ready .any ops ls = [] ∧ K .normal s H) ∨ (Region.ready .any ops ls ≠ [] ∧ ∃ m, n = m + 1 ∧ ∀ i ∈ Region.ready .any ops ls, stepJ P ops i s H K (J m (ls.setIfInBounds i true))))
section
variable {P : Program} {ops : Array Oper} {C : World → Prop} {K : Ex → List AV → List Ent → Prop} {ρ0 : List Loc} {S0 : Nat → Prop} {H0 : List Ent} {w0 : World} {dfs : List Deferred}
theorem closed_sound {J : Nat → Array Bool → List AV → List Ent → Prop} (hJ : ClosedJ P ops C K J) : ∀ (n : Nat) (ls : Array Bool) (s : List AV) (H : List Ent), J n ls s H → ∀ (ρ : List Loc) (S : Nat → Prop) (w : World) (a : Act), Ev ρ0 S0 H0 w0 ρ S H w → a.defers = dfs → Sat ρ S H w → RelS ρ s a.tmps.toList →
  AnyC P ops (Post ρ0 S0 H0 w0 dfs K) C [] n ls a w := by
 intro n
 induction n with
 | zero =>
  intro ls s H h ρ S w a hev hdf hs hr
  obtain ⟨hC, h2⟩ := hJ 0 ls s H h
  rcases h2 with ⟨h3, h4⟩ | ⟨_, m, h3, _⟩
  ·exact ⟨fun _ => hC w hs.facts, h3, ρ, S, s, H, .normal, hs, hev, hr, hdf, trivial, h4⟩
  ·cases h3
 | succ n ih =>
  intro ls s H h ρ S w a hev hdf hs hr
  obtain ⟨hC, h2⟩ := hJ (n + 1) ls s H h
  refine ⟨fun _ => hC w hs.facts, fun h0 => ?_, fun i hi => ?_⟩
  ·rcases h2 with ⟨_, h4⟩ | ⟨h3, _⟩
   ·exact ⟨ρ, S, s, H, .normal, hs, hev, hr, hdf, trivial, h4⟩
   ·exact absurd h0 h3
  ·rcases h2 with ⟨h3, _⟩ | ⟨_, m, hm, h4⟩
   ·rw [h3] at hi; cases hi
   ·obtain rfl : n = m := by omega
    obtain ⟨o, ho, hq⟩ := pickK_spec (h4 i hi)
    unfold wpOp
    simp only [ho]
    rcases wantK_spec hq hr with ⟨hw, s', h', hr'⟩ | ⟨hw, s', h', hr'⟩
    ·rw [if_pos hw]
     refine .inl (step_sound (K := fun out H' => match out with
      | .val av => putK s' o.dst av fun s2 => J n (ls.setIfInBounds i true) s2 H'
      | .vals _ => False
      | .pan c => K (.pan c) s' H') h' hs hr' (fun ρ1 S1 H1 w1 av v hs1 hev1 hrel hK => ?_) (fun ρ1 S1 H1 w1 c hs1 hev1 hK => ?_) fun _ _ h => h)
     ·obtain ⟨s2, hK2, hput⟩ := putK_spec hK
      have hrs : RelS ρ1 s' a.tmps.toList := by obtain ⟨t, ht⟩ := hev1.pre; rw [ht]; exact RelS_pre t hr'
      exact ih _ s2 H1 hK2 ρ1 S1 w1 _ (hev.trans hev1) (by rw [put_defers]; exact hdf) hs1 (hput ρ1 a v hrs hrel)
     ·exact ⟨ρ1, S1, s', H1, .pan c, hs1, hev.trans hev1, trivial, hdf, rfl, hK⟩
    ·rw [if_neg (by simp [hw])]
     obtain ⟨s2, hK2, hput⟩ := putK_spec h'
     exact ih _ s2 H hK2 ρ S w _ hev (by rw [put_defers]; exact hdf) hs (hput ρ a undef hr' rfl)
theorem front_sound {Q : Exit → Act → World → Prop} {ρ : List Loc} {w : World} {g : Nat} {Ks : List AV → Prop} {ls2 : Array Bool} (hsel : Region.noSelect ops = true) (hQ : ∀ c a d v w, Q (.panic c) (Act.put a d v) w → Q (.panic c) a w)
  (next : ∀ s a, Ks s → RelS ρ s a.tmps.toList → a.defers = dfs → AnyC P ops Q C [] g ls2 a w) : ∀ (l : List Nat) (s : List AV) (ls : Array Bool) (a : Act), execF P C ops l s Ks → preB .any ops l ls = true → setAll ls l = ls2 → RelS ρ s a.tmps.toList → a.defers = dfs →
   AnyC P ops Q C [] (l.length + g) ls a w
 | [], s, ls, a, h, _, he, hr, hd => by
  have he' : ls = ls2 := he
  subst he'
  rw [List.length_nil, Nat.zero_add]; exact next s a h hr hd
 | k :: l, s, ls, a, h0, hB, he, hr, hd => by
  have h : pickK ops k fun o => wantK ops o s (fun s => frontK P C o s fun av => putK s o.dst av fun s' => execF P C ops l s' Ks) (fun s => putK s o.dst (.c (.v undef)) fun s' => execF P C ops l s' Ks) := h0
  obtain ⟨o, ho, hq⟩ := pickK_spec h
  simp only [preB, Bool.and_eq_true] at hB
  have hk1 : k ∈ Region.ready .any ops ls := by simpa using hB.1.1
  rw [List.length_cons, Nat.add_right_comm]
  have fin : ∀ (v : Value) (s2 : List AV), Yields P ops o v a → execF P C ops l s2 Ks → RelS ρ s2 (a.put o.dst v).tmps.toList → AnyC P ops Q C [] (l.length + g + 1) ls a w := fun v s2 hy hK hr2 =>
   anyC_blind ho (Region.noSelect_spec hsel) (fun c a w h => hQ c a _ _ w h) (by simp) _ ls _ w (fun j oj hj hne hun hno => Region.free_spec ho hB.1.2 j oj hj hne hun hno) hk1 hy
    (front_sound hsel hQ next l s2 _ _ hK hB.2 he hr2 (by rw [put_defers]; exact hd))
  have finR : ∀ (v : Value) (s2 : List AV), YR P ops C o v a → execF P C ops l s2 Ks → RelS ρ s2 (a.put o.dst v).tmps.toList → AnyC P ops Q C [] (l.length + g + 1) ls a w := fun v s2 hy hK hr2 =>
   anyC_read ho (Region.noSelect_spec hsel) (fun c a w h => hQ c a _ _ w h) _ ls _ w (fun j oj hj hne hun hno => Region.free_spec ho hB.1.2 j oj hj hne hun hno) hk1 hy
    (front_sound hsel hQ next l s2 _ _ hK hB.2 he hr2 (by rw [put_defers]; exact hd))
  rcases wantK_spec hq hr with ⟨hw, s', h', hr'⟩ | ⟨hw, s', h', hr'⟩
  ·by_cases hld : (∃ T x, o.op = .load T x) ∨ ∃ T x i, o.op = .indexAddr T x i
   ·have h2 : ∃ x, ReadC P C o s' (fun av => putK s' o.dst av fun s2 => execF P C ops l s2 Ks) x := by
     have h3 := h'
     unfold frontK at h3
     rcases hld with ⟨T, y, hop⟩ | ⟨T, y, i, hop⟩
     ·simp only [hop] at h3
      exact h3
     ·simp only [hop] at h3
      exact h3
    obtain ⟨x, rc⟩ := h2
    obtain ⟨s2, hK2, hput⟩ := putK_spec rc.next
    refine finR x s2 (.inl ⟨hw, fun w' hw' => ?_⟩) hK2 (hput ρ a x hr' rfl)
    rw [execOp_congr o rc.sel (ρ' := plainEv s') fun y hy => allPlain_eval hr' _ rc.plain y (Array.mem_toList_iff.2 hy)]
    exact rc.run w' hw'
   ·have h2 : blindK P o s' fun av => putK s' o.dst av fun s2 => execF P C ops l s2 Ks := by
     have h3 := h'
     unfold frontK at h3
     split at h3
     ·rename_i T x hop
      exact absurd (.inl ⟨T, x, hop⟩) hld
     ·rename_i T x i hop
      exact absurd (.inr ⟨T, x, i, hop⟩) hld
     ·exact h3
    obtain ⟨av, v, hK, hrel, hrun⟩ := blind_sound (K := fun av => putK s' o.dst av fun s2 => execF P C ops l s2 Ks) h2 hr'
    obtain ⟨s2, hK2, hput⟩ := putK_spec hK
    exact fin v s2 (.inl ⟨hw, hrun⟩) hK2 (hput ρ a v hr' hrel)
  ·obtain ⟨s2, hK2, hput⟩ := putK_spec h'
   exact fin undef s2 (.inr ⟨hw, rfl⟩) hK2 (hput ρ a undef hr' rfl)
end
theorem DrawN.walk {P : Program} {ops : Array Oper} {s : List AV} {H : List Ent} {K : Ex → List AV → List Ent → Prop} (hm : P.follows .mixedOrders = true) (C : World → Prop) (rd : List Nat) (n : Nat) (J : Nat → Array Bool → List AV → List Ent → Prop) (hsel : Region.noSelect ops = true) (hn : decide (ops.size = rd.length + n) = true) (hrd : preB .any ops rd (Array.replicate ops.size false) = true)
  (hJ : ClosedJ P ops C K J) (next : execF P C ops rd s fun s1 => J n (setAll (Array.replicate ops.size false) rd) s1 H) : DrawN P ops s H K :=
 .sem fun id ρ S w a hs hr => by
  have hn := of_decide_eq_true hn
  refine wp_region_any hm ?_
  have e0 : wpAny P .any ops (Post ρ S H w a.defers K) ops.size = wpAny P .any ops (Post ρ S H w a.defers K) (rd.length + n) := by rw [← hn]
  rw [e0]
  refine AnyC.any _ _ _ _ (front_sound (C := C) (dfs := a.defers) (ρ := ρ) hsel (fun c a d v w h => h.put) (fun s1 a1 h1 hr1 hd1 => ?_) rd s _ a next hrd rfl hr rfl)
  exact closed_sound hJ n _ s1 H h1 ρ S _ a1 (Ev.drew ρ S H w) hd1 (hs.heap rfl) hr1
theorem SemR.mono {P : Program} {ops : Array Oper} {s : List AV} {H : List Ent} {K K' : Ex → List AV → List Ent → Prop} (h : SemR P ops s H K') (hk : ∀ ex s' H', K' ex s' H' → K ex s' H') : SemR P ops s H K :=
 fun id ρ S w a hs hr => wp_mono (h id ρ S w a hs hr) fun e a' w' ⟨ρ', S', s', H', ex, h1, h2, h3, h4, h5, h6⟩ => ⟨ρ', S', s', H', ex, h1, h2, h3, h4, h5, hk _ _ _ h6⟩
theorem BlindW.lenS {P : Program} {o : Oper} {s : List AV} {K : AV → Prop} {x : Operand} {T : TypeId} {args : Array Operand} {ts : Array TypeId} {b : ByteArray} (ho : o.op = .call { callee := .builtin .len, args := args, argTypes := ts }) (ha : args = #[x]) (ht : ts = #[T]) (hu : P.underlying T = some .string)
  (hx : opv s x = .c (.v (.string b))) (hk : K (.c (.v (.int .i64 (b.size : Int))))) : ∃ x, BlindW P o s K x := by
 subst ha ht
 refine ⟨.int .i64 (b.size : Int), ?_, fun w => execOp_blt ho fun consts => ?_, hk⟩
 ·rw [ho]
  show allPlain s [x] = true
  simp [allPlain, hx]
 ·have he : plainEv s x = .string b := by unfold plainEv; rw [hx]
  simp [builtin, Builtin.len_, run_underlying hu, he, goInt]
end Go.AX
namespace Go.Proofs.YtgogonnnojcioaaGreatDoor
open Go.RowKit Go.Shelf Go.AX Go.Proofs
attribute [local go_sem] Oper.semAt_some
def upto {α : Type} (f : Nat → α) (k : Nat) : List α := (List.range k).map f
theorem upto_succ {α : Type} (f : Nat → α) (k : Nat) : upto f (k + 1) = upto f k ++ [f k] := by simp [upto, List.range_succ]
theorem upto_length {α : Type} (f : Nat → α) (k : Nat) : (upto f k).length = k := by simp [upto]
theorem upto_all (zs : List (List UInt8)) : upto (fun j => zs[j]?.getD []) zs.length = zs := by
 apply List.ext_getElem
 ·simp [upto]
 ·intro i h1 h2
  simp [upto, h2]
theorem upto_take (zs : List (List UInt8)) {k : Nat} (hk : k ≤ zs.length) : upto (fun j => zs[j]?.getD []) k = zs.take k := by
 apply List.ext_getElem
 ·simp [upto, hk]
 ·intro i h1 h2
  have : i < zs.length := by simp [upto] at h1; omega
  simp [upto, this]
set_option maxRecDepth 100000 in
set_option maxHeartbeats 4000000 in
theorem values1_in (F : Fence) (n : Nat) (h7 : F.fn 135) (hro : F.round = none) (hn : 1 ≤ n) (l Bs n₀ b off len cap : Nat) (zs : List (List UInt8)) (hreach : len * 16 ≤ 140737488351232) (hb : b < n₀) (J Jx : List (List UInt8) → World → Prop)
  (hY : ∀ pre x W, J pre W → pre.length < len → YieldAt F (n - 1) Tryz.prog l #[.string (bs x)] W fun e W' =>
   (e = .returned (.bool true) ∧ J (pre ++ [x]) W' ∧ Below n₀ W W') ∨ (e = .returned (.bool false) ∧ Jx (pre ++ [x]) W'))
  (W : World) (hBs : W.cell? ⟨Bs, 0, none⟩ = some (.slice (some ⟨b, off, none⟩) len cap)) (hc : ∀ j, j < len → W.cell? ⟨b, off + j, none⟩ = some (.string (bs (zs[j]?.getD [])))) (h0 : J [] W) :
  CallsIn F n Tryz.prog 135 #[.func (.yield l) #[] #[], .pointer (some ⟨Bs, 0, none⟩)] W fun e W' => (∃ v, e = .returned v) ∧
   ((∃ ys, ys = upto (fun j => zs[j]?.getD []) len ∧ J ys W') ∨ (∃ pre, (∃ k, k ≤ len ∧ pre = upto (fun j => zs[j]?.getD []) k) ∧ Jx pre W')) := by
 refine callsIn_of_wp Tryz.func135 rfl h7 ?_ hro
 simp only [Tryz.ntmps135, List.size_toArray, List.length_cons, List.length_nil, Nat.reduceAdd, Nat.reduceSub, Array.replicate_succ, Array.replicate_zero, List.push_toArray, List.append_toArray, List.nil_append, List.cons_append]
 gi_wp2
 gi_loopw [7] (fun i wr => ∃ k : Nat, k ≤ len ∧ i = .int .i64 k ∧ J (upto (fun j => zs[j]?.getD []) k) wr ∧ Below n₀ W wr)
  (fun i _ => len - (intOf i).toNat)
 case atStart => exact ⟨0, Nat.zero_le _, rfl, h0, Below.refl _ _⟩
 case round =>
  obtain ⟨k, hk, rfl, hJs, hnx⟩ := hrel
  have hcx : k < len → wr.cell? ⟨b, off + k, none⟩ = some (.string (bs (zs[k]?.getD []))) := fun h => (hnx.cell (p := ⟨b, off + k, none⟩) hb).trans (hc k h)
  by_cases hlt : k < len
  ·obtain ⟨fn, tmps, assign, body, hy, hR⟩ := hY _ (zs[k]?.getD []) wr hJs (by rw [upto_length]; exact hlt)
   have hcx' := hcx hlt
   gi_wp2
   refine hR.mono ?_
   rintro e W3 (⟨rfl, hJ3, hk3⟩ | ⟨rfl, hJx3⟩)
   ·gi_wp2
    go_roundw
    case rel => exact ⟨k + 1, by omega, by simp, by rw [upto_succ]; exact hJ3, hnx.trans hk3⟩
    case measure => simp [intOf]; omega
   ·gi_wp2
    refine bodyPost_ret (results_none rfl _ _ _) rfl ?_
    exact ⟨⟨_, rfl⟩, .inr ⟨_, ⟨k + 1, by omega, (upto_succ _ _).symm⟩, hJx3⟩⟩
  ·obtain rfl : k = len := by omega
   gi_wp2
   go_end0
   exact ⟨⟨_, rfl⟩, .inl ⟨_, rfl, hJs⟩⟩
def StrsAt (n₀ : Nat) (W : World) (sv : Value) (zs : List (List UInt8)) : Prop :=
 (∃ a cap, sv = .slice a 0 cap ∧ zs = []) ∨ ∃ b off cap, sv = .slice (some ⟨b, off, none⟩) zs.length cap ∧ b < n₀ ∧ ∀ j, j < zs.length → W.cell? ⟨b, off + j, none⟩ = some (.string (bs (zs[j]?.getD [])))
theorem StrsAt.below {n₀ : Nat} {A B : World} (h : Below n₀ A B) {sv : Value} {zs : List (List UInt8)} : StrsAt n₀ A sv zs → StrsAt n₀ B sv zs
 | .inl e => .inl e
 | .inr ⟨b, off, cap, e, hb, hc⟩ => .inr ⟨b, off, cap, e, hb, fun j hj => (h.cell (p := ⟨b, off + j, none⟩) hb).trans (hc j hj)⟩
set_option maxRecDepth 100000 in
set_option maxHeartbeats 1000000 in
theorem values1_nil_in (F : Fence) (n : Nat) (h7 : F.fn 135) (hro : F.round = none) (l Bs : Nat) (a : Option Addr) (cap : Nat) (J : List (List UInt8) → World → Prop) (W : World) (hBs : W.cell? ⟨Bs, 0, none⟩ = some (.slice a 0 cap)) (h0 : J [] W) :
  CallsIn F n Tryz.prog 135 #[.func (.yield l) #[] #[], .pointer (some ⟨Bs, 0, none⟩)] W fun e W' => (∃ v, e = .returned v) ∧ J [] W' := by
 refine callsIn_of_wp Tryz.func135 rfl h7 ?_ hro
 simp only [Tryz.ntmps135, List.size_toArray, List.length_cons, List.length_nil, Nat.reduceAdd, Nat.reduceSub, Array.replicate_succ, Array.replicate_zero, List.push_toArray, List.append_toArray, List.nil_append, List.cons_append]
 gi_wp2
 gi_loopw [7] (fun i wr => i = .int .i64 0 ∧ J [] wr) (fun _ _ => 0)
 case atStart => exact ⟨rfl, h0⟩
 case round =>
  obtain ⟨rfl, hJs⟩ := hrel
  gi_wp2
  go_end0
  exact ⟨⟨_, rfl⟩, hJs⟩
theorem values_stops (F : Fence) (n : Nat) (h7 : F.fn 135) (hro : F.round = none) (hn : 1 ≤ n) (Bs n₀ : Nat) (sv : Value) (zs : List (List UInt8)) (hreach : zs.length * 16 ≤ 140737488351232) (w : World) (hBs : Bs < w.heap.size) (hn₀ : n₀ ≤ w.heap.size)
  (hc : w.cell? ⟨Bs, 0, none⟩ = some sv) (hI : StrsAt n₀ w sv zs) :
  SeqStopsK F n Tryz.prog 135 #[.pointer (some ⟨Bs, 0, none⟩)] (fun x : List UInt8 => #[Value.string (bs x)]) (Below n₀) (fun ys => ys = zs) (fun pre => pre <+: zs) zs.length w := fun l J Jx W hW _ _ hY h0 => by
 have hc' := (hW.cell (p := ⟨Bs, 0, none⟩) hBs).trans hc
 rcases hI.below (hW.mono hn₀) with ⟨a, cap, rfl, rfl⟩ | ⟨b, off, cap, rfl, hb, hcs⟩
 ·exact (values1_nil_in F n h7 hro l Bs a cap J W hc' h0).mono fun e W' ⟨he, hj⟩ => ⟨he, .inl ⟨_, rfl, hj⟩⟩
 ·refine (values1_in F n h7 hro hn l Bs n₀ b off zs.length cap zs hreach hb J Jx hY W hc' hcs h0).mono ?_
  rintro e W' ⟨he, ⟨ys, rfl, hj⟩ | ⟨pre, ⟨k, hk, rfl⟩, hj⟩⟩
  ·exact ⟨he, .inl ⟨_, upto_all zs, hj⟩⟩
  ·exact ⟨he, .inr ⟨_, by rw [upto_take zs hk]; exact List.take_prefix _ _, hj⟩⟩
theorem info_str : (Tryz.prog.info? 9).map (fun i => (i.zero, i.size, i.bytes)) = some (some (.string ⟨#[]⟩), 1, 16) := by kernel_rfl
set_option maxRecDepth 100000 in
set_option maxHeartbeats 4000000 in
theorem appendSeq_in (F : Fence) (n : Nat) (h3 : F.fn 154) (h5 : F.fn 135) (hro : F.round = none) (hn : 3 ≤ n) (Bs : Nat) (sv : Value) (zs : List (List UInt8)) (hlen : zs.length ≤ maxLen) (hbytes : zs.length * 16 ≤ 140737488351232) (w : World) (hBs : Bs < w.heap.size)
  (hcs : w.cell? ⟨Bs, 0, none⟩ = some sv) (hL : StrsAt w.heap.size w sv zs) :
  CallsIn F n Tryz.prog 154 #[.slice none 0 0, .func (.func 135) #[] #[.pointer (some ⟨Bs, 0, none⟩)]] w fun e W' => ∃ v, e = .returned v ∧ W'.ownsRow w.heap.size 9 1 v zs.length (zs.map fun x => Value.string (bs x)) ∧ Below w.heap.size w W' := by
 have h1 : 1 ≤ n := by omega
 obtain ⟨i0, hi, hz0, hz1, hz2⟩ := info_parts info_str
 refine callsIn_of_wp_marks Tryz.func154 rfl h3 ?_ hro
 simp only [Tryz.ntmps154, List.size_toArray, List.length_cons, List.length_nil, Nat.reduceAdd, Nat.reduceSub, Array.replicate_succ, Array.replicate_zero, List.push_toArray, List.append_toArray, List.nil_append, List.cons_append]
 gi_wp2
 have bO := Boxed.new w 55 (.slice none 0 0)
 have hB0 : Below w.heap.size w (w.alloc (.cells #[.slice none 0 0] 55)) := (Below.refl _ w).alloc (Nat.le_refl _) _
 refine wpIn_rangeFunc_ownG hro h1 (gf := 135) (lb := #[.pointer (some ⟨Bs, 0, none⟩)]) rfl h5 (enters_of Tryz.func135 (by kernel_rfl) rfl)
  (values_stops F (n - 1) h5 hro (by omega) Bs w.heap.size sv zs hbytes _ (by simp; omega) (by simp) ((hB0.cell (p := ⟨Bs, 0, none⟩) hBs).trans hcs) (hL.below hB0)) belowK_t (belowK_b (by simp)) (Below.refl _ _) (fun _ => rfl)
  (fun pre W => (∃ v, Boxed W w.heap.size 55 v ∧ W.ownsRow w.heap.size 9 1 v pre.length (pre.map fun x => Value.string (bs x)) ∧ True) ∧ Below w.heap.size w W)
  (fun _ _ _ => False)
  (OwnFrom.and (Own.from (holdsRow_own w.heap.size w.heap.size 55 9 1 (fun pre : List (List UInt8) => pre.length) (fun pre => pre.map fun x => Value.string (bs x)) (fun _ _ => True)) _) (ownFrom_below (Nat.le_refl _) (by simp)))
  (fun _ _ _ _ _ hs _ _ => hs)
  ⟨⟨_, bO, World.ownsRow_nil _ _ _ _, trivial⟩, hB0⟩
  (fun x => { tmps := #[.slice none 0 0, .func (.func 135) #[] #[.pointer (some ⟨Bs, 0, none⟩)], .pointer (some ⟨w.heap.size, 0, none⟩), undef, .slice none 0 0, .string (bs x), .func (.func 135) #[] #[.pointer (some ⟨Bs, 0, none⟩)], .string (bs x), undef, undef, undef, undef, undef], defers := [] }) ?assign ?body ?done ?stop
 case assign =>
  intro l x W K hK
  gi_wp2
  exact hK
 case body =>
  rintro l pre x W ⟨⟨v, hv, hrow, _⟩, hB⟩ hlt
  have hc := hv.cell
  gi_wp2_with (gi_at_builtin; refine wpListIn_append_own _ rfl _ _ 55 rfl w.heap.size 9 i0 (.string ⟨#[]⟩) 1 16 Tryz.underlying55 hi hz0 hz1 hz2 rfl (by decide) _ _ _ rfl (hrow.alloc _) ⟨W.heap.size, 0, none⟩ 1 1 [.string (bs x)] rfl rfl (cell_one_new _ _ _) (by simp [Value.oneCell']) (by omega) (by omega) (by have := hB.size; simp; omega) ?_; intro v' w1 hown' hgrow _; obtain ⟨g', cap', rfl⟩ := ownsRow_succ hown'; obtain ⟨hv1, hv2, hr2, hk2, hb2⟩ := hv.appended (by decide) hrow hB.size (Nat.le_refl _) hown' hgrow; have hc1 := hv1.cell; have hf1 := hv1.frozen)
  exact ⟨hk2.from _, hb2, ⟨_, hv2, by simpa using hr2, trivial⟩, hB.trans hb2⟩
 case done =>
  rintro D ys W hD rfl ⟨⟨v, hv, hrow, _⟩, hB⟩ hK
  have hc := hv.cell
  gi_wp2
  refine ⟨by simp, .inl ⟨_, _, rfl, run_takeDeferred hK, ?_⟩⟩
  exact ⟨_, results_tmp rfl _ _ _, v, rfl, ownsRow_putObj hrow _ hK rfl, hB.trans (belowK_b (w := w) (Nat.le_refl _) W D _ _ (by simp at hD; omega) hK rfl rfl)⟩
 case stop =>
  rintro D c pre W _ _ h _
  exact h.elim
end Go.Proofs.YtgogonnnojcioaaGreatDoor
namespace Go.AX
open Go.RowKit
theorem Sat.addApp {ρ : List Loc} {S : Nat → Prop} {H : List Ent} {w w' : World} {T : TypeId} {sz n cap g : Nat} {ys : List Value} (hs : Sat ρ S H w) (h : Below w.heap.size w w') (hg : w.heap.size ≤ g) (hrow : RowF T sz n ys g cap w') :
  Sat (ρ ++ [⟨0, 0⟩]) S (H ++ [.app T sz ys (some ⟨g, 0, none⟩) n cap]) w' ∧ Ev ρ S H w (ρ ++ [⟨0, 0⟩]) S (H ++ [.app T sz ys (some ⟨g, 0, none⟩) n cap]) w' := by
 have h1 := hs.below h
 have hcase : ∀ (i : Nat) (e : Ent), (H ++ [Ent.app T sz ys (some ⟨g, 0, none⟩) n cap])[i]? = some e → (i < H.length ∧ H[i]? = some e) ∨ (i = H.length ∧ e = .app T sz ys (some ⟨g, 0, none⟩) n cap) := fun i e he => by
  by_cases hi : i < H.length
  ·rw [List.getElem?_append_left hi] at he; exact .inl ⟨hi, he⟩
  ·have hi2 : i = H.length := by
    have := (List.getElem?_eq_some_iff.1 he).1
    simp at this; omega
   subst hi2
   simp at he
   exact .inr ⟨rfl, he.symm⟩
 have hb2 : ∀ (i : Nat) (e : Ent) (b : Nat), (H ++ [Ent.app T sz ys (some ⟨g, 0, none⟩) n cap])[i]? = some e → entB (ρ ++ [⟨0, 0⟩]) i e b → (H[i]? = some e ∧ entB ρ i e b) ∨ (i = H.length ∧ b = g) := fun i e b he hb => by
  rcases hcase i e he with ⟨hi, he'⟩ | ⟨hi, rfl⟩
  ·rw [entB_pre _ (by rw [hs.len]; exact hi)] at hb
   exact .inl ⟨he', hb⟩
  ·exact .inr ⟨hi, (Option.some.inj hb).symm⟩
 refine ⟨⟨by simp [hs.len], fun i e he => ?_, fun i j e f b he hf heb hfb => ?_, fun b ⟨i, e, he, hb⟩ hn => ?_, h1.low⟩, ⟨⟨[⟨0, 0⟩], rfl⟩, h.os, h.tape, h.output, h.size, fun b hb _ => h.block b hb, fun b hb => .inl hb, fun b ⟨i, e, he, hb⟩ => ?_⟩⟩
 ·rcases hcase i e he with ⟨hi, he'⟩ | ⟨hi, rfl⟩
  ·have := (hs.ent i e he').move (w' := w') [⟨0, 0⟩] (fun b hb => h.block _ (hs.blk_lt he' hb)) fun b hb => h.block b (hs.low b hb)
   exact this
  ·exact .inr ⟨g, rfl, hrow⟩
 ·rcases hb2 i e b he heb with ⟨a1, a2⟩ | ⟨a1, a2⟩ <;> rcases hb2 j f b hf hfb with ⟨b1, b2⟩ | ⟨b1, b2⟩
  ·exact hs.inj i j e f b a1 b1 a2 b2
  ·have := hs.blk_lt a1 a2; omega
  ·have := hs.blk_lt b1 b2; omega
  ·omega
 ·rcases hb2 i e b he hb with ⟨a1, a2⟩ | ⟨_, a2⟩
  ·exact hs.out b ⟨i, e, a1, a2⟩ hn
  ·have := hs.low b hn; omega
 ·rcases hb2 i e b he hb with ⟨a1, a2⟩ | ⟨_, a2⟩
  ·exact .inl ⟨i, e, a1, a2⟩
  ·exact .inr (by omega)
theorem SpecH.rawN {P : Program} {f : FuncId} {xs : List Value} {H : List Ent} {K : Out → List Ent → Prop} {T : TypeId} {sz n : Nat} {ys : List Value} (ok : CallOk P f)
  (h : ∀ w, Facts H w → Calls P f xs.toArray w fun e w' => ∃ v, e = .returned v ∧ w'.ownsRow w.heap.size T sz v n ys ∧ Below w.heap.size w w')
  (hk0 : n = 0 → snocK H (.app T sz [] none 0 0) 0 fun H' _ => K (.val (.c (.v (.slice none 0 0)))) H')
  (hk : ∀ b cap : Nat, n ≤ cap → snocK H (.app T sz ys (some ⟨b, 0, none⟩) n cap) 0 fun H' _ => K (.val (.c (.v (.slice (some ⟨b, 0, none⟩) n cap)))) H') : SpecH P f (pvs xs) H K := by
 simp only [snocK_eq] at hk hk0
 refine ⟨ok, fun ρ S w vs hs hr => ?_⟩
 obtain rfl := RelS_pvs hr
 refine (h w hs.facts).mono fun e w' ⟨v, he, hrow, bel⟩ => ?_
 rcases hrow.2 with ⟨rfl, h0⟩ | ⟨g, cap, cur, rfl, hg, hb, h1, h2, h3, h4⟩
 ·have hs' := (hs.below bel).pad [.app T sz [] none 0 0] rfl
  obtain ⟨t, hs2, hev2⟩ := hs'
  refine ⟨ρ ++ t, S, _, .val (.c (.v (.slice none 0 0))), hs2, ?_, ⟨_, he, rfl⟩, hk0 h0⟩
  exact (below_ev (S := S) (S' := S) (ρ := ρ) (H := H) (H' := H) [] bel (fun b hb => .inl hb) (fun b hb => by simpa using hb)).trans (by simpa using hev2)
 ·have hR : RowF T sz n ys g cap w' := ⟨cur, (0, 0), ⟨hb, .inl rfl⟩, hrow.1, h1, h2, h3, h4⟩
  obtain ⟨hs2, hev2⟩ := hs.addApp bel hg hR
  exact ⟨_, S, _, .val (.c (.v (.slice (some ⟨g, 0, none⟩) n cap))), hs2, hev2, ⟨_, he, rfl⟩, hk g cap h1⟩
end Go.AX
namespace Go.Proofs.YtgogonnnojcioaaGreatDoor
open Go.RowKit Go.AX Go.Core Go.Sort Go.Proofs
set_option maxRecDepth 20000
theorem holds_row {T : TypeId} {b cap : Nat} {zs : List (List UInt8)} {w : World} (h : RowF T 1 zs.length (strC zs) b cap w) : Holds encStr w b 0 zs.toArray := by
 obtain ⟨arr, ⟨lo, hi⟩, ⟨hb, hfr⟩, h1, h2, h3, h4, h5⟩ := h
 intro j hj
 have hj' : j < zs.length := by simpa using hj
 have h6 : (arr.toList.take (zs.length * 1))[j]? = (strC zs)[j]? := by rw [h5]
 rw [List.getElem?_take_of_lt (by omega)] at h6
 unfold strC at h6
 rw [List.getElem?_map, List.getElem?_eq_getElem hj'] at h6
 refine ⟨?_, ?_⟩
 ·simp only [World.cell?, hb, Nat.zero_add]
  simp only [Option.isSome_none, Bool.false_eq_true, if_false]
  rw [Array.getElem?_toList] at h6
  rw [h6, getElem!_pos zs.toArray j (by simpa using hj')]
  rfl
 ·simp only [World.frozen?, hb, Nat.zero_add]
  rcases hfr with hfr | hfr
  ·cases hfr; simp
  ·have : ¬ lo ≤ j := by
    simp only at hfr
    have : j < arr.size := by omega
    omega
   simp [this]
theorem row_put {T : TypeId} {b cap k : Nat} {zs ts : List (List UInt8)} {w : World} {os : Array Obj} (h : RowF T 1 zs.length (strC zs) b cap w) (hb : b < w.heap.size) (hl : ts.length = zs.length) : RowF T 1 zs.length (strC ts) b cap (grow (putRow encStr (Sort.ahead w k) b 0 ts.toArray) os) := by
 obtain ⟨arr, fr, ⟨hh, hfr⟩, h1, h2, h3, h4, h5⟩ := h
 have hsz : (putCells encStr 0 ts.toArray arr).size = arr.size := by simp [putCells]
 refine ⟨putCells encStr 0 ts.toArray arr, fr, ⟨?_, by rw [hsz]; exact hfr⟩, by simp [strC, hl], h2, h3, by rw [hsz]; exact h4, ?_⟩
 ·rw [heap_grow_old _ _ (by simp [putRow, mapBlock, Sort.ahead, hb])]
  simp [putRow, mapBlock, Sort.ahead, Array.getElem?_modify, hh, onCells]
 ·rw [Nat.mul_one, ← hl]
  exact take_putCells arr ts (by omega)
def sortS (zs : List (List UInt8)) : List (List UInt8) := zs.mergeSort fun x y => decide (x ≤ y)
theorem sortS_len (zs : List (List UInt8)) : (sortS zs).length = zs.length := (List.mergeSort_perm zs _).length_eq
theorem Sort_c {H : List Ent} {K : Out → List Ent → Prop} (i : Nat) (zs : List (List UInt8)) (b cap : Nat) (hz : zs.length ≤ 40000) (hi : nthE H i = some (.app 9 1 (strC zs) (some ⟨b, 0, none⟩) zs.length cap))
  (hk : setEK H i (.app 9 1 (strC (sortS zs)) (some ⟨b, 0, none⟩) zs.length cap) fun H' => K (.val (.c (.v (.tuple #[])))) H') : SpecH Tryz.prog 134 (pvs [.slice (some ⟨b, 0, none⟩) zs.length cap]) H K :=
 SpecH.rawA (callOk Tryz.func134 (by kernel_rfl) rfl) i hi (R := fun r n' ys' => r = .tuple #[] ∧ n' = zs.length ∧ ys' = strC (sortS zs)) (fun w hrow hb => (Tryz.slices_Sort_string b 0 cap zs w (holds_row hrow) hb (by omega)).mono fun e w' ⟨he, k, os, hw⟩ => by
  subst hw
  have hg := grownBy_sorted (w := w) (g := b) (n := k) (os := os) (sortS zs).toArray
  exact ⟨_, _, _, he, ⟨rfl, rfl, rfl⟩, row_put hrow hb (sortS_len zs), hg.size, fun k hk hne => hg.block k hk (fun e => hne (Option.some.inj e)), hg.os, hg.tape, hg.output⟩) fun r n' ys' ⟨h1, h2, h3⟩ => by
  subst h1 h2 h3
  exact hk
theorem SortNil_c {H : List Ent} {K : Out → List Ent → Prop} (p : Option Addr) (cap : Nat) (hk : K (.val (.c (.v (.tuple #[])))) H) : SpecH Tryz.prog 134 (pvs [.slice p 0 cap]) H K :=
 SpecH.rawP (R := fun r => r = .tuple #[]) (callOk Tryz.func134 (by kernel_rfl) rfl) (fun w _ => (Tryz.slices_Sort_string_none p cap w).mono fun e w' ⟨he, hw⟩ => by
  subst hw
  exact ⟨_, he, rfl, Below.refl _ _⟩) fun r hr => by subst hr; exact hk
theorem Compact_c {H : List Ent} {K : Out → List Ent → Prop} (i : Nat) (zs : List (List UInt8)) (b cap : Nat) (hz : zs.length ≤ 40000) (hcap : zs.length ≤ cap) (hi : nthE H i = some (.app 9 1 (strC zs) (some ⟨b, 0, none⟩) zs.length cap))
  (hk : ∀ ys, setEK H i (.app 9 1 ys (some ⟨b, 0, none⟩) zs.length cap) fun H' => K (.val (.c (.v (.slice (some ⟨b, 0, none⟩) (Lib.compact zs).length cap)))) H') : SpecH Tryz.prog 112 (pvs [.slice (some ⟨b, 0, none⟩) zs.length cap]) H K :=
 SpecH.rawA (callOk Tryz.func112 (by kernel_rfl) rfl) i hi (R := fun r n' _ => r = .slice (some ⟨b, 0, none⟩) (Lib.compact zs).length cap ∧ n' = zs.length) (fun w hrow hb => (Tryz.slices_Compact_string b 0 cap zs w (holds_row hrow) (by omega) hcap).mono fun e w' ⟨he, k, hw⟩ => by
  subst hw
  have hlen : (Lib.compact zs ++ List.replicate (zs.length - (Lib.compact zs).length) []).length = zs.length := by
   have := Lib.compact_length_le zs
   simp
   omega
  have hr := row_put (k := k) (os := #[]) hrow hb hlen
  have hg := grownBy_sorted (w := w) (g := b) (n := k) (os := #[]) (Lib.compact zs ++ List.replicate (zs.length - (Lib.compact zs).length) []).toArray
  rw [grow_empty] at hr hg
  exact ⟨_, _, _, he, ⟨rfl, rfl⟩, hr, hg.size, fun k hk hne => hg.block k hk (fun e => hne (Option.some.inj e)), hg.os, hg.tape, hg.output⟩) fun r n' ys' ⟨h1, h2⟩ => by
  subst h1 h2
  exact hk ys'
theorem Compact_n {H : List Ent} {K : Out → List Ent → Prop} (i : Nat) (zs : List (List UInt8)) (n : Nat) (hn : zs.length = n) (b cap : Nat) (hz : n ≤ 40000) (hcap : n ≤ cap) (hi : nthE H i = some (.app 9 1 (strC zs) (some ⟨b, 0, none⟩) n cap))
  (hk : ∀ ys, setEK H i (.app 9 1 ys (some ⟨b, 0, none⟩) n cap) fun H' => K (.val (.c (.v (.slice (some ⟨b, 0, none⟩) (Lib.compact zs).length cap)))) H') : SpecH Tryz.prog 112 (pvs [.slice (some ⟨b, 0, none⟩) n cap]) H K := by
 subst hn
 exact Compact_c i zs b cap hz hcap hi hk
theorem CompactNil_c {H : List Ent} {K : Out → List Ent → Prop} (p : Option Addr) (cap : Nat) (hk : K (.val (.c (.v (.slice p 0 cap)))) H) : SpecH Tryz.prog 112 (pvs [.slice p 0 cap]) H K :=
 SpecH.rawP (R := fun r => r = .slice p 0 cap) (callOk Tryz.func112 (by kernel_rfl) rfl) (fun w _ => (Tryz.slices_Compact_string_empty p cap w).mono fun e w' ⟨he, hw⟩ => by
  subst hw
  exact ⟨_, he, rfl, Below.refl _ _⟩) fun r hr => by subst hr; exact hk
theorem strs_at {w : World} {a : Option Addr} {cap : Nat} {zs : List (List UInt8)} (h : SlAt a (zs.length * 1) (strC zs) w) : StrsAt w.heap.size w (.slice a zs.length cap) zs ∨ zs = [] := by
 cases zs with
 | nil => exact .inr rfl
 | cons z zs =>
  obtain ⟨h1, h2, h3⟩ := h
  have ha := h2 (by simp)
  obtain ⟨p, rfl⟩ := Option.isSome_iff_exists.1 ha
  have hc : ∀ j, j < (z :: zs).length → w.cell? (p.add j) = (strC (z :: zs))[j]? := fun j hj => h3 j (by omega)
  have h0 := hc 0 (by simp)
  have hsp : p.spot = none ∧ p.block < w.heap.size := by
   have e : (strC (z :: zs))[0]? = some (.string (bs z)) := rfl
   rw [e] at h0
   unfold World.cell? at h0
   split at h0
   ·rename_i c T fr hb
    have hb' : p.block < w.heap.size := (Array.getElem?_eq_some_iff.1 hb).1
    by_cases hs : (p.add 0).spot.isSome
    ·rw [if_pos hs] at h0; cases h0
    ·refine ⟨?_, hb'⟩
     have : ¬ p.spot.isSome = true := hs
     simpa using this
   ·cases h0
  obtain ⟨pb, po, ps⟩ := p
  obtain ⟨rfl, hlt⟩ : ps = none ∧ pb < w.heap.size := hsp
  refine .inl (.inr ⟨pb, po, cap, rfl, hlt, fun j hj => ?_⟩)
  have := hc j hj
  unfold strC at this
  rw [List.getElem?_map, List.getElem?_eq_getElem hj] at this
  rw [List.getElem?_eq_getElem hj]
  rw [add_lit] at this
  exact this
theorem AppendSeq_c {H : List Ent} {K : Out → List Ent → Prop} (B cap : Nat) (a : Option Addr) (zs : List (List UInt8)) (hz : zs.length ≤ 40000) (hF : ∀ w, Facts H w → w.cell? ⟨B, 0, none⟩ = some (.slice a zs.length cap) ∧ SlAt a (zs.length * 1) (strC zs) w)
  (hk0 : zs.length = 0 → snocK H (.app 9 1 [] none 0 0) 0 fun H' _ => K (.val (.c (.v (.slice none 0 0)))) H')
  (hk : ∀ b c : Nat, zs.length ≤ c → snocK H (.app 9 1 (strC zs) (some ⟨b, 0, none⟩) zs.length c) 0 fun H' _ => K (.val (.c (.v (.slice (some ⟨b, 0, none⟩) zs.length c)))) H') :
  SpecH Tryz.prog 154 (pvs [.slice none 0 0, .func (.func 135) #[] #[.pointer (some ⟨B, 0, none⟩)]]) H K := by
 refine SpecH.rawN (T := 9) (sz := 1) (n := zs.length) (ys := strC zs) (callOk Tryz.func154 (by kernel_rfl) rfl) (fun w hw => ?_) hk0 hk
 obtain ⟨h1, h3⟩ := hF w hw
 have hB : B < w.heap.size := by
  unfold World.cell? at h1
  split at h1
  ·rename_i hb; exact (Array.getElem?_eq_some_iff.1 hb).1
  ·cases h1
 have hs : StrsAt w.heap.size w (.slice a zs.length cap) zs := by
  rcases strs_at (cap := cap) h3 with h | h
  ·exact h
  ·subst h
   exact .inl ⟨a, cap, rfl, rfl⟩
 have hm : zs.length ≤ maxLen := by simp only [maxLen]; omega
 exact (callsIn_wide (n := 5)).1 ((appendSeq_in Fence.wide 5 trivial trivial rfl (by omega) B _ zs hm (by omega) w hB h1 hs).mono fun e w' ⟨v, he, hr, hb⟩ => ⟨v, he, hr, hb⟩)
end Go.Proofs.YtgogonnnojcioaaGreatDoor
namespace Go.Core
open Go.Lib
theorem filter_full {α : Type} {p : α → Bool} : ∀ {l : List α}, (l.filter p).length = l.length → ∀ x ∈ l, p x = true
 | [], _, _, h => by cases h
 | a :: l, he, x, h => by
  rw [List.filter_cons] at he
  have hle := List.length_filter_le p l
  cases hp : p a with
  | false => rw [if_neg (by simp [hp])] at he; simp only [List.length_cons] at he; omega
  | true =>
   rw [if_pos hp] at he
   simp only [List.length_cons] at he
   rcases List.mem_cons.1 h with rfl | h
   ·exact hp
   ·exact filter_full (by omega) x h
theorem compact_len (zs : List (List UInt8)) : (compact zs).length = zs.length ↔ ∀ j, j < zs.length → keeps zs.toArray j = true := by
 constructor
 ·intro h j hj
  unfold compact compactUpTo at h
  rw [List.length_map] at h
  exact filter_full (l := List.range zs.length) (by rw [h, List.length_range]) j (List.mem_range.2 hj)
 ·exact fun h => by rw [compact_all zs h]
theorem sorted_nodup {zs : List (List UInt8)} (hs : zs.Pairwise fun a b => decide (a ≤ b) = true) : (∀ j, j < zs.length → keeps zs.toArray j = true) ↔ zs.Nodup := by
 constructor
 ·intro h
  refine List.pairwise_iff_getElem.2 fun i j hi hj hij he => ?_
  have h1 := h j hj
  unfold keeps at h1
  rw [decide_eq_true_eq] at h1
  have h2 : zs.toArray[j]! ≠ zs.toArray[j - 1]! := h1.resolve_left (by omega)
  rw [getElem!_pos zs.toArray j (by simpa using hj), getElem!_pos zs.toArray (j - 1) (by simp; omega)] at h2
  simp only [List.getElem_toArray] at h2
  refine h2 ?_
  rcases Nat.lt_or_ge i (j - 1) with hlt | hge
  ·have a1 := List.pairwise_iff_getElem.1 hs i (j - 1) hi (by omega) hlt
   have a2 := List.pairwise_iff_getElem.1 hs (j - 1) j (by omega) hj (by omega)
   simp only [decide_eq_true_eq] at a1 a2
   rw [he] at a1
   exact List.le_antisymm a1 a2
  ·have e : i = j - 1 := by omega
   subst e
   exact he.symm
 ·intro h j hj
  unfold keeps
  rw [decide_eq_true_eq]
  rcases Nat.eq_zero_or_pos j with h0 | h0
  ·exact .inl h0
  ·refine .inr ?_
   rw [getElem!_pos zs.toArray j (by simpa using hj), getElem!_pos zs.toArray (j - 1) (by simp; omega)]
   simp only [List.getElem_toArray]
   exact Ne.symm (List.pairwise_iff_getElem.1 h (j - 1) j (by omega) hj (by omega))
theorem compact_sort (ss : List (List UInt8)) : (compact (ss.mergeSort fun x y => decide (x ≤ y))).length = ss.length ↔ ss.Nodup := by
 have hp := List.mergeSort_perm ss fun x y => decide (x ≤ y)
 have hs : (ss.mergeSort fun x y => decide (x ≤ y)).Pairwise fun a b => decide (a ≤ b) = true :=
  List.pairwise_mergeSort (fun a b c h1 h2 => by simp only [decide_eq_true_eq] at *; exact List.le_trans h1 h2) (fun a b => by simp only [Bool.or_eq_true, decide_eq_true_eq]; exact List.le_total a b) ss
 rw [← hp.length_eq, compact_len, sorted_nodup hs]
 exact hp.nodup_iff
end Go.Core
namespace Go.Proofs.YtgogonnnojcioaaGreatDoor
open Go.AX Go.RowKit Go.Core Go.Scan
set_option maxRecDepth 20000
def plWords (text : List UInt8) (p5 p10 p14 : Bool) (k : Int) : Option Value :=
 if k = 4 ∧ p5 = true then some (.bool (decide ((text.length : Int) ≤ 2000))) else if k = 5 ∧ p10 = true then some (.bool (decide ((text.length : Int) ≤ 40))) else if k = 8 ∧ p14 = true then some (.bool (icB text)) else none
def plOk (p0 p13 p5 p10 p14 p15 p16 : Bool) : Bool := (!p5 || p0) && (!p10 || p0) && (!p14 || (p0 && p13)) && (!p15 || (p5 && p10 && p14)) && (!p16 || p15)
def plN (p0 p13 p5 p10 p14 p15 p16 : Bool) : Nat := (!p0).toNat + (!p13).toNat + (!p5).toNat + (!p10).toNat + (!p14).toNat + (!p15).toNat + (!p16).toNat
def mpA (p : Bool) (b : Nat) : AV := bif p then .c (.v (.map (some b))) else .c .any
def plS (c : Value) (cb b : Nat) (text : List UInt8) (p0 p13 p15 p16 : Bool) : List AV :=
 .c (.v c) :: .c (.v (.pointer (some ⟨cb, 0, none⟩))) :: .c (.v (.bool false)) :: mpA p16 b :: .c .any :: .c .any :: .c .any :: mpA p0 b ::
  .c (.v (.pointer (some ⟨cb, 2, none⟩))) :: .c (.v (.string (bs text))) :: .c (.v (.int .i64 (text.length : Int))) :: .c (.v (.bool (decide ((text.length : Int) ≤ 2000)))) ::
  .c (.v (.pointer (some ⟨cb, 2, none⟩))) :: .c (.v (.string (bs text))) :: .c (.v (.int .i64 (text.length : Int))) :: .c (.v (.bool (decide ((text.length : Int) ≤ 40)))) ::
  .c (.v (.pointer (some ⟨cb, 2, none⟩))) :: .c (.v (.string (bs text))) :: (bif p13 then .c (.v (.bool (icB text))) else .c .any) :: mpA p15 b :: mkS 111 20 []
def plH (F : World → Prop) (cs : List Value) (cb b cl : Nat) (es : Array MapEntry) (p0 : Bool) : List Ent :=
 .fact F :: .app 57 5 cs (some ⟨cb, 0, none⟩) 1 1 :: (bif p0 then [.mp b es cl] else [])
def plJ (F : World → Prop) (c : Value) (cs : List Value) (cb : Nat) (text : List UInt8) (n : Nat) (ls : Array Bool) (s : List AV) (H : List Ent) : Prop :=
 ∃ (p0 p13 p5 p10 p14 p15 p16 : Bool) (b cl : Nat) (es : Array MapEntry), plOk p0 p13 p5 p10 p14 p15 p16 = true ∧ n = plN p0 p13 p5 p10 p14 p15 p16 ∧ ls = #[p0, true, true, true, true, p5, true, true, true, true, p10, true, true, p13, p14, p15, p16] ∧
  s = plS c cb b text p0 p13 p15 p16 ∧ H = plH F cs cb b cl es p0 ∧ MapIs .i64 es (plWords text p5 p10 p14)
theorem plain1_c (s : List UInt8) (hs : s.length ≤ 200000000000000) : ∀ H, SpecH Tryz.prog 114 (pvs [.string (bs s)]) H (Ret (.bool (!iiB s)) H) := by
 refine pureC hm Tryz.func114 (by kernel_rfl) rfl rfl ?_
 refine wX ?_
 refine call1 (IsIvar_c s hs _) ?_
 exact wZ
theorem CompactN_c (p : Option Addr) (cap : Nat) : ∀ H, SpecH Tryz.prog 112 (pvs [.slice p 0 cap]) H (Ret (.slice p 0 cap) H) := fun _ => CompactNil_c p cap ⟨rfl, rfl⟩
set_option maxHeartbeats 4000000 in
theorem plain_c0 (kind num : Int) (text : List UInt8) (names : List (List UInt8)) (items : List Int) (na : Option Addr) (nc : Nat) (ia : Option Addr) (ic : Nat) (hna : na = none → names = []) (hia : ia = none → items = []) (hnl : names.length ≤ 40000) (hil : items.length ≤ 40000) (hnw : ∀ s ∈ names, s.length ≤ 200000000000000) (htl : text.length ≤ 200000000000000) :
  ∀ H, (∀ w, Facts H w → SlAt na (names.length * 1) (strC names) w ∧ SlAt ia (items.length * 1) (iC items) w) → SpecH Tryz.prog 90 (pvs [.agg #[.int .i64 kind, .int .i64 num, .string (bs text), .slice na names.length nc, .slice ia items.length ic]]) H (Ret (.bool (plainS ⟨kind, num, text, names, items⟩)) H) := by
 refine factC hm Tryz.func90 (by kernel_rfl) rfl rfl ?_
 refine wXB ?_
 refine BoxN.known [.int .i64 kind, .int .i64 num, .string (bs text), .slice na names.length nc, .slice ia items.length ic] rfl fun cb => ?_
 refine wXB ?_
 refine DrawN.walk hm (fun w => SlAt (some ⟨cb, 0, none⟩) 5 [.int .i64 kind, .int .i64 num, .string (bs text), .slice na names.length nc, .slice ia items.length ic] w) [1, 2, 3, 4, 6, 7, 8, 9, 11, 12] 7 (plJ (fun w => SlAt na (names.length * 1) (strC names) w ∧ SlAt ia (items.length * 1) (iC items) w) (.agg #[.int .i64 kind, .int .i64 num, .string (bs text), .slice na names.length nc, .slice ia items.length ic]) [.int .i64 kind, .int .i64 num, .string (bs text), .slice na names.length nc, .slice ia items.length ic] cb text) (by decide +kernel) (by decide +kernel) (by decide +kernel) ?_ ?_
 ·rintro n ls s H ⟨p0, p13, p5, p10, p14, p15, p16, b, cl, es, hok, rfl, rfl, rfl, rfl, hes⟩
  refine ⟨fun w hw => hw.2.1, ?_⟩
  cases p16 with
  | true =>
   obtain ⟨rfl, rfl, rfl, rfl, rfl, rfl⟩ : p0 = true ∧ p13 = true ∧ p5 = true ∧ p10 = true ∧ p14 = true ∧ p15 = true := by
    clear hes
    revert p0 p13 p5 p10 p14 p15
    decide
   refine .inl ⟨by decide +kernel, ?_⟩
   have hkk : kind < 0 ∨ 8 < kind ∨ kind = 0 ∨ kind = 1 ∨ kind = 2 ∨ kind = 3 ∨ kind = 4 ∨ kind = 5 ∨ kind = 6 ∨ kind = 7 ∨ kind = 8 := by omega
   obtain ⟨j, hj⟩ := hes kind
   rcases hkk with hk | hk | rfl | rfl | rfl | rfl | rfl | rfl | rfl | rfl | rfl
   ·-- what the map holds: nothing
    rw [show plWords text true true true kind = none by unfold plWords; rw [if_neg (by omega), if_neg (by omega), if_neg (by omega)]] at hj
    refine wXE ?_
    refine ReadW.askMap none rfl Tryz.underlying125 Tryz.underlying3 rfl rfl rfl rfl (fun w hw => hw.2.2.1) hj ?_
    refine wXE ?_
    refine brd_dec (fun _ => ?_) (fun h => absurd hk h)
    refine wXE ?_
    exact out_bool (by
     have : ¬ 0 ≤ kind := by omega
     unfold Go.Core.plainS; simp [this])
   ·-- what the map holds: nothing
    rw [show plWords text true true true kind = none by unfold plWords; rw [if_neg (by omega), if_neg (by omega), if_neg (by omega)]] at hj
    refine wXE ?_
    refine ReadW.askMap none rfl Tryz.underlying125 Tryz.underlying3 rfl rfl rfl rfl (fun w hw => hw.2.2.1) hj ?_
    refine wXE ?_
    refine brd_dec (fun h => absurd h (by omega)) (fun _ => ?_)
    refine wXE ?_
    refine brd_dec (fun _ => ?_) (fun h => absurd hk h)
    refine wXE ?_
    exact out_bool (by
     have : ¬ kind ≤ 8 := by omega
     unfold Go.Core.plainS; simp [this])
   ·-- what the map holds: nothing
    rw [show plWords text true true true 0 = none by unfold plWords; rw [if_neg (by omega), if_neg (by omega), if_neg (by omega)]] at hj
    refine wXE ?_
    refine ReadW.askMap none rfl Tryz.underlying125 Tryz.underlying3 rfl rfl rfl rfl (fun w hw => hw.2.2.1) hj ?_
    refine wXE ?_
    rw [bs_list]
    cases ht : text == ([] : List UInt8) with
    | false =>
     have ht0 : text ≠ [] := fun e => by rw [e] at ht; cases ht
     refine wXE ?_
     exact out_bool (by unfold Go.Core.plainS; simp [ht0])
    | true =>
    have ht0 : text = [] := eq_of_beq ht
    refine wXE ?_
    refine brd_ne (fun hu => ?_) (fun hu => ?_)
    ·refine wXE ?_
     exact out_bool (by unfold Go.Core.plainS; simp [hu])
    refine wXE ?_
    refine brd_dec (fun h => absurd h (by omega)) (fun _ => ?_)
    refine wXE ?_
    refine brd_dec (fun h => absurd h (by omega)) (fun _ => ?_)
    refine wXE ?_
    refine call1 (isLeaf_c 0 _) ?_
    refine wXE ?_
    refine brd_eq (fun h1 => ?_) (fun h1 => ?_)
    ·have hi0 : items = [] := List.eq_nil_of_length_eq_zero (by omega)
     refine wXE ?_
     exact out_bool (by
      have hmx : -Go.Core.maxI ≤ 0 ∧ (0 : Int) ≤ Go.Core.maxI := by decide
      rw [Bool.eq_iff_iff]
      unfold Go.Core.plainS
      simp [hi0, ht0, hu, hmx]
      try exact ⟨fun h => List.eq_nil_of_length_eq_zero (by omega), fun h => by rw [h]; rfl⟩)
    ·have hi0 : items ≠ [] := fun e => by rw [e] at h1; exact h1 rfl
     refine wXE ?_
     exact out_bool (by unfold Go.Core.plainS; simp [hi0])
   ·-- what the map holds: nothing
    rw [show plWords text true true true 1 = none by unfold plWords; rw [if_neg (by omega), if_neg (by omega), if_neg (by omega)]] at hj
    refine wXE ?_
    refine ReadW.askMap none rfl Tryz.underlying125 Tryz.underlying3 rfl rfl rfl rfl (fun w hw => hw.2.2.1) hj ?_
    refine wXE ?_
    rw [bs_list]
    cases ht : text == ([] : List UInt8) with
    | false =>
     have ht0 : text ≠ [] := fun e => by rw [e] at ht; cases ht
     refine wXE ?_
     exact out_bool (by unfold Go.Core.plainS; simp [ht0])
    | true =>
    have ht0 : text = [] := eq_of_beq ht
    refine wXE ?_
    refine brd_ne (fun hu => ?_) (fun hu => ?_)
    ·refine wXE ?_
     exact out_bool (by unfold Go.Core.plainS; simp [hu])
    refine wXE ?_
    refine brd_dec (fun h => absurd h (by omega)) (fun _ => ?_)
    refine wXE ?_
    refine brd_dec (fun h => absurd h (by omega)) (fun _ => ?_)
    refine wXE ?_
    refine call1 (isLeaf_c 1 _) ?_
    refine wXE ?_
    refine brd_eq (fun h1 => ?_) (fun h1 => ?_)
    ·have hi0 : items = [] := List.eq_nil_of_length_eq_zero (by omega)
     refine wXE ?_
     exact out_bool (by
      have hmx : -Go.Core.maxI ≤ 0 ∧ (0 : Int) ≤ Go.Core.maxI := by decide
      rw [Bool.eq_iff_iff]
      unfold Go.Core.plainS
      simp [hi0, ht0, hu, hmx]
      try exact ⟨fun h => List.eq_nil_of_length_eq_zero (by omega), fun h => by rw [h]; rfl⟩)
    ·have hi0 : items ≠ [] := fun e => by rw [e] at h1; exact h1 rfl
     refine wXE ?_
     exact out_bool (by unfold Go.Core.plainS; simp [hi0])
   ·-- what the map holds: nothing
    rw [show plWords text true true true 2 = none by unfold plWords; rw [if_neg (by omega), if_neg (by omega), if_neg (by omega)]] at hj
    refine wXE ?_
    refine ReadW.askMap none rfl Tryz.underlying125 Tryz.underlying3 rfl rfl rfl rfl (fun w hw => hw.2.2.1) hj ?_
    refine wXE ?_
    rw [bs_list]
    cases ht : text == ([] : List UInt8) with
    | false =>
     have ht0 : text ≠ [] := fun e => by rw [e] at ht; cases ht
     refine wXE ?_
     exact out_bool (by unfold Go.Core.plainS; simp [ht0])
    | true =>
    have ht0 : text = [] := eq_of_beq ht
    refine wXE ?_
    refine brd_ne (fun hu => ?_) (fun hu => ?_)
    ·refine wXE ?_
     exact out_bool (by unfold Go.Core.plainS; simp [hu])
    refine wXE ?_
    refine brd_dec (fun h => absurd h (by omega)) (fun _ => ?_)
    refine wXE ?_
    refine brd_dec (fun h => absurd h (by omega)) (fun _ => ?_)
    refine wXE ?_
    refine call1 (isLeaf_c 2 _) ?_
    refine wXE ?_
    refine brd_eq (fun h1 => ?_) (fun h1 => ?_)
    ·have hi0 : items = [] := List.eq_nil_of_length_eq_zero (by omega)
     refine wXE ?_
     exact out_bool (by
      have hmx : -Go.Core.maxI ≤ 0 ∧ (0 : Int) ≤ Go.Core.maxI := by decide
      rw [Bool.eq_iff_iff]
      unfold Go.Core.plainS
      simp [hi0, ht0, hu, hmx]
      try exact ⟨fun h => List.eq_nil_of_length_eq_zero (by omega), fun h => by rw [h]; rfl⟩)
    ·have hi0 : items ≠ [] := fun e => by rw [e] at h1; exact h1 rfl
     refine wXE ?_
     exact out_bool (by unfold Go.Core.plainS; simp [hi0])
   ·-- what the map holds: nothing
    rw [show plWords text true true true 3 = none by unfold plWords; rw [if_neg (by omega), if_neg (by omega), if_neg (by omega)]] at hj
    refine wXE ?_
    refine ReadW.askMap none rfl Tryz.underlying125 Tryz.underlying3 rfl rfl rfl rfl (fun w hw => hw.2.2.1) hj ?_
    refine wXE ?_
    rw [bs_list]
    cases ht : text == ([] : List UInt8) with
    | false =>
     have ht0 : text ≠ [] := fun e => by rw [e] at ht; cases ht
     refine wXE ?_
     exact out_bool (by unfold Go.Core.plainS; simp [ht0])
    | true =>
    have ht0 : text = [] := eq_of_beq ht
    refine wXE ?_
    refine brd_dec (fun hb1 => ?_) (fun hb1 => ?_)
    ·refine wXE ?_
     exact out_bool (by
      have : ¬ (-Go.Core.maxI ≤ num) := by show ¬ (-1000000000000000 ≤ num); omega
      unfold Go.Core.plainS; simp [this])
    refine wXE ?_
    refine brd_dec (fun hb2 => ?_) (fun hb2 => ?_)
    ·refine wXE ?_
     exact out_bool (by
      have : ¬ (num ≤ Go.Core.maxI) := by show ¬ (num ≤ 1000000000000000); omega
      unfold Go.Core.plainS; simp [this])
    refine wXE ?_
    have hq1 : -Go.Core.maxI ≤ num := by show -1000000000000000 ≤ num; omega
    have hq2 : num ≤ Go.Core.maxI := by show num ≤ 1000000000000000; omega
    refine call1 (isLeaf_c 3 _) ?_
    refine wXE ?_
    refine brd_eq (fun h1 => ?_) (fun h1 => ?_)
    ·have hi0 : items = [] := List.eq_nil_of_length_eq_zero (by omega)
     refine wXE ?_
     exact out_bool (by
      have hmx : -Go.Core.maxI ≤ 0 ∧ (0 : Int) ≤ Go.Core.maxI := by decide
      rw [Bool.eq_iff_iff]
      unfold Go.Core.plainS
      simp [hi0, ht0, hq1, hq2, hmx]
      try exact ⟨fun h => List.eq_nil_of_length_eq_zero (by omega), fun h => by rw [h]; rfl⟩)
    ·have hi0 : items ≠ [] := fun e => by rw [e] at h1; exact h1 rfl
     refine wXE ?_
     exact out_bool (by unfold Go.Core.plainS; simp [hi0])
   ·-- 4: the kind, decide ((text.length : Int) ≤ 2000): what the map holds
    rw [show plWords text true true true 4 = some (.bool (decide ((text.length : Int) ≤ 2000))) by simp [plWords]] at hj
    refine wXE ?_
    refine ReadW.askMap (some (j, .bool (decide ((text.length : Int) ≤ 2000)))) rfl Tryz.underlying125 Tryz.underlying3 rfl rfl rfl rfl (fun w hw => hw.2.2.1) hj ?_
    refine wXE ?_
    cases hf : decide ((text.length : Int) ≤ 2000) with
    | false =>
     refine wXE ?_
     exact out_bool (by unfold Go.Core.plainS; simp [show ¬ text.length ≤ 2000 from fun h => of_decide_eq_false hf (by omega)])
    | true =>
    refine wXE ?_
    refine brd_ne (fun hu => ?_) (fun hu => ?_)
    ·refine wXE ?_
     exact out_bool (by unfold Go.Core.plainS; simp [hu])
    refine wXE ?_
    refine brd_dec (fun h => absurd h (by omega)) (fun _ => ?_)
    refine wXE ?_
    refine brd_dec (fun h => absurd h (by omega)) (fun _ => ?_)
    refine wXE ?_
    refine call1 (isLeaf_c 4 _) ?_
    refine wXE ?_
    refine brd_eq (fun h1 => ?_) (fun h1 => ?_)
    ·have hi0 : items = [] := List.eq_nil_of_length_eq_zero (by omega)
     refine wXE ?_
     exact out_bool (by
      have hmx : -Go.Core.maxI ≤ 0 ∧ (0 : Int) ≤ Go.Core.maxI := by decide
      rw [Bool.eq_iff_iff]
      unfold Go.Core.plainS
      simp [hi0, hu, show text.length ≤ 2000 from by have := of_decide_eq_true hf; omega, hmx]
      try exact ⟨fun h => List.eq_nil_of_length_eq_zero (by omega), fun h => by rw [h]; rfl⟩)
    ·have hi0 : items ≠ [] := fun e => by rw [e] at h1; exact h1 rfl
     refine wXE ?_
     exact out_bool (by unfold Go.Core.plainS; simp [hi0])
   ·-- 5: the kind, decide ((text.length : Int) ≤ 40): what the map holds
    rw [show plWords text true true true 5 = some (.bool (decide ((text.length : Int) ≤ 40))) by simp [plWords]] at hj
    refine wXE ?_
    refine ReadW.askMap (some (j, .bool (decide ((text.length : Int) ≤ 40)))) rfl Tryz.underlying125 Tryz.underlying3 rfl rfl rfl rfl (fun w hw => hw.2.2.1) hj ?_
    refine wXE ?_
    cases hf : decide ((text.length : Int) ≤ 40) with
    | false =>
     refine wXE ?_
     exact out_bool (by unfold Go.Core.plainS; simp [show ¬ text.length ≤ 40 from fun h => of_decide_eq_false hf (by omega)])
    | true =>
    refine wXE ?_
    refine brd_ne (fun hu => ?_) (fun hu => ?_)
    ·refine wXE ?_
     exact out_bool (by unfold Go.Core.plainS; simp [hu])
    refine wXE ?_
    refine brd_dec (fun h => absurd h (by omega)) (fun _ => ?_)
    refine wXE ?_
    refine brd_dec (fun h => absurd h (by omega)) (fun _ => ?_)
    refine wXE ?_
    refine call1 (isLeaf_c 5 _) ?_
    refine wXE ?_
    refine brd_eq (fun h1 => ?_) (fun h1 => ?_)
    ·have hi0 : items = [] := List.eq_nil_of_length_eq_zero (by omega)
     refine wXE ?_
     exact out_bool (by
      have hmx : -Go.Core.maxI ≤ 0 ∧ (0 : Int) ≤ Go.Core.maxI := by decide
      rw [Bool.eq_iff_iff]
      unfold Go.Core.plainS
      simp [hi0, hu, show text.length ≤ 40 from by have := of_decide_eq_true hf; omega, hmx]
      try exact ⟨fun h => List.eq_nil_of_length_eq_zero (by omega), fun h => by rw [h]; rfl⟩)
    ·have hi0 : items ≠ [] := fun e => by rw [e] at h1; exact h1 rfl
     refine wXE ?_
     exact out_bool (by unfold Go.Core.plainS; simp [hi0])
   ·-- what the map holds: nothing
    rw [show plWords text true true true 6 = none by unfold plWords; rw [if_neg (by omega), if_neg (by omega), if_neg (by omega)]] at hj
    refine wXE ?_
    refine ReadW.askMap none rfl Tryz.underlying125 Tryz.underlying3 rfl rfl rfl rfl (fun w hw => hw.2.2.1) hj ?_
    refine wXE ?_
    rw [bs_list]
    cases ht : text == ([] : List UInt8) with
    | false =>
     have ht0 : text ≠ [] := fun e => by rw [e] at ht; cases ht
     refine wXE ?_
     exact out_bool (by unfold Go.Core.plainS; simp [ht0])
    | true =>
    have ht0 : text = [] := eq_of_beq ht
    refine wXE ?_
    refine brd_ne (fun hu => ?_) (fun hu => ?_)
    ·refine wXE ?_
     exact out_bool (by unfold Go.Core.plainS; simp [hu])
    refine wXE ?_
    refine brd_dec (fun h => absurd h (by omega)) (fun _ => ?_)
    refine wXE ?_
    refine brd_dec (fun h => absurd h (by omega)) (fun _ => ?_)
    refine wXE ?_
    refine call1 (isLeaf_c 6 _) ?_
    refine wXE ?_
    refine brd_eq (fun h1 => ?_) (fun h1 => ?_)
    ·have hn0 : names = [] := List.eq_nil_of_length_eq_zero (by omega)
     refine wXE ?_
     exact out_bool (by
      have hmx : -Go.Core.maxI ≤ 0 ∧ (0 : Int) ≤ Go.Core.maxI := by decide
      rw [Bool.eq_iff_iff]
      unfold Go.Core.plainS
      simp [hn0, ht0, hu, hmx]
      try (rw [Int.tmod_eq_emod_of_nonneg (by omega)]; omega))
    ·have hn0 : names ≠ [] := fun e => by rw [e] at h1; exact h1 rfl
     refine wXE ?_
     exact out_bool (by unfold Go.Core.plainS; simp [hn0])
   ·-- what the map holds: nothing
    rw [show plWords text true true true 7 = none by unfold plWords; rw [if_neg (by omega), if_neg (by omega), if_neg (by omega)]] at hj
    refine wXE ?_
    refine ReadW.askMap none rfl Tryz.underlying125 Tryz.underlying3 rfl rfl rfl rfl (fun w hw => hw.2.2.1) hj ?_
    refine wXE ?_
    rw [bs_list]
    cases ht : text == ([] : List UInt8) with
    | false =>
     have ht0 : text ≠ [] := fun e => by rw [e] at ht; cases ht
     refine wXE ?_
     exact out_bool (by unfold Go.Core.plainS; simp [ht0])
    | true =>
    have ht0 : text = [] := eq_of_beq ht
    refine wXE ?_
    refine brd_ne (fun hu => ?_) (fun hu => ?_)
    ·refine wXE ?_
     exact out_bool (by unfold Go.Core.plainS; simp [hu])
    refine wXE ?_
    refine brd_dec (fun h => absurd h (by omega)) (fun _ => ?_)
    refine wXE ?_
    refine brd_dec (fun h => absurd h (by omega)) (fun _ => ?_)
    refine wXE ?_
    refine call1 (isLeaf_c 7 _) ?_
    refine wXE ?_
    refine brd_eq (fun h1 => ?_) (fun h1 => ?_)
    ·have hn0 : names = [] := List.eq_nil_of_length_eq_zero (by omega)
     refine wXE ?_
     exact out_bool (by
      have hmx : -Go.Core.maxI ≤ 0 ∧ (0 : Int) ≤ Go.Core.maxI := by decide
      rw [Bool.eq_iff_iff]
      unfold Go.Core.plainS
      simp [hn0, ht0, hu, hmx]
      try (rw [Int.tmod_eq_emod_of_nonneg (by omega)]; omega))
    ·have hn0 : names ≠ [] := fun e => by rw [e] at h1; exact h1 rfl
     refine wXE ?_
     exact out_bool (by unfold Go.Core.plainS; simp [hn0])
   ·-- 8: the kind, icB text: what the map holds
    rw [show plWords text true true true 8 = some (.bool (icB text)) by simp [plWords]] at hj
    refine wXE ?_
    refine ReadW.askMap (some (j, .bool (icB text))) rfl Tryz.underlying125 Tryz.underlying3 rfl rfl rfl rfl (fun w hw => hw.2.2.1) hj ?_
    refine wXE ?_
    cases hf : icB text with
    | false =>
     refine wXE ?_
     exact out_bool (by unfold Go.Core.plainS; simp [hf])
    | true =>
    refine wXE ?_
    refine brd_ne (fun hu => ?_) (fun hu => ?_)
    ·refine wXE ?_
     exact out_bool (by unfold Go.Core.plainS; simp [hu])
    refine wXE ?_
    refine brd_dec (fun h => absurd h (by omega)) (fun _ => ?_)
    refine wXE ?_
    refine brd_dec (fun h => absurd h (by omega)) (fun _ => ?_)
    refine wXE ?_
    refine call1 (isLeaf_c 8 _) ?_
    refine wXE ?_
    refine spec_of_exec hm Tryz.func111 (by kernel_rfl) rfl rfl ?_
    refine wXB ?_
    refine BoxN.known [.slice na names.length nc] rfl fun vb => ?_
    refine wXE ?_
    refine spec_of_exec hm Tryz.func110 (by kernel_rfl) rfl rfl ?_
    refine wXE ?_
    refine spec_of_exec hm Tryz.func133 (by kernel_rfl) rfl rfl ?_
    refine wXE ?_
    refine SpecH.args (args' := pvs [.slice none 0 0, .func (.func 135) #[] #[.pointer (some ⟨vb, 0, none⟩)]]) (by simp [pvs, opvs, opv, nth, plainEv]; try rfl) ?_
    refine AppendSeq_c vb nc na names (by omega) (fun w hw => ⟨?_, hw.1.1⟩) (fun h0 => ?_) (fun b2 c2 hc2 => ?_)
    ·have := (hw.2.2.2.1).2.2 0 (by simp)
     exact this
    ·have hnn : names = [] := List.eq_nil_of_length_eq_zero h0
     refine wXE ?_
     refine SpecH.args (args' := pvs [.slice none 0 0]) (by simp [pvs, opvs, opv, nth, plainEv]; try rfl) ?_
     refine SortNil_c none 0 ?_
     refine wXE ?_
     refine brd_eq (fun hln => ?_) (fun hln => ?_)
     ·refine wXE ?_
      refine callQ (CompactN_c none 0 _) ?_
      refine wXE ?_
      refine brd_eq (fun _ => ?_) (fun h => absurd (show (0 : Int) = (names.length : Int) by omega) h)
      refine wXE ?_
      refine callQ (HasS_c (fun s => !iiB s) 114 #[] (fun _ => True) na nc names (fun p hp H _ => plain1_c p (hnw p hp) H) hna (by omega) _ (fun w hw => ⟨hw.1.1, trivial⟩)) ?_
      refine wXE ?_
      exact out_bool (by
       have hmx : -Go.Core.maxI ≤ 0 ∧ (0 : Int) ≤ Go.Core.maxI := by decide
       have hi0 : items.length = 0 := by omega
       unfold Go.Core.plainS
       simp [hnn, hu, hmx, hf, hi0])
     ·refine wXE ?_
      exact out_bool (by
       have : ¬ names.length = items.length := by omega
       unfold Go.Core.plainS; simp [this])
    ·refine wXE ?_
     refine SpecH.args (args' := pvs [.slice (some ⟨b2, 0, none⟩) names.length c2]) (by simp [pvs, opvs, opv, nth, plainEv]; try rfl) ?_
     refine Sort_c 4 names b2 c2 (by omega) rfl ?_
     ((conv => whnf); (repeat ((first | refine LdN.one (a := some ⟨cb, 0, none⟩) (q := 0) (xs := [_, _, _, _, _]) _ rfl (fun w hw => hw.2.1) rfl ?_ | refine LdN.one (a := some ⟨cb, 0, none⟩) (q := 1) (xs := [_, _, _, _, _]) _ rfl (fun w hw => hw.2.1) rfl ?_ | refine LdN.one (a := some ⟨cb, 0, none⟩) (q := 2) (xs := [_, _, _, _, _]) _ rfl (fun w hw => hw.2.1) rfl ?_ | refine LdN.one (a := some ⟨cb, 0, none⟩) (q := 3) (xs := [_, _, _, _, _]) _ rfl (fun w hw => hw.2.1) rfl ?_ | refine LdN.one (a := some ⟨cb, 0, none⟩) (q := 4) (xs := [_, _, _, _, _]) _ rfl (fun w hw => hw.2.1) rfl ?_ | refine RwN.own ?_ | refine VrN.norm (wrap_i64 (by omega)) ?_ | refine VrN.keep ?_ | refine Nd.mk (by decide +kernel) ?_ | refine Nd.mk (by omega) ?_ | (refine Nd.mk ?_ ?_; focus ((repeat' (first | exact trivial | exact wkE_refl _ | refine And.intro ?_ ?_)); done)) | refine RdN.intro _ rfl (by rfl) ?_); (conv => whnf))))
     refine DrawN.planR hm (fun w => SlAt (some ⟨cb, 0, none⟩) 5 [.int .i64 8, .int .i64 num, .string (bs text), .slice na names.length nc, .slice ia items.length ic] w) [0, 3] [(1, 1), (2, 1), (4, 1), (5, 1), (6, 1), (7, 1), (8, 1), (11, 1), (12, 1), (13, 1), (9, 0), (10, 1), (14, 1), (15, 1), (16, 1), (17, 1), (18, 1), (19, 0), (20, 1), (21, 1), (22, 1)] (by decide +kernel) (fun w hw => hw.2.1) ?_
     refine wXP ?_
     refine ReadC.one (T := 55) (x := .tmp 109) (a := some ⟨cb, 0, none⟩) (q := 3) (k := 5) (xs := [.int .i64 8, .int .i64 num, .string (bs text), .slice na names.length nc, .slice ia items.length ic]) (.slice na names.length nc) ?_ ?_ ?_ ?_ ?_ ?_
     ·rfl
     ·rfl
     ·rfl
     ·exact fun w hw => hw
     ·rfl
     refine wXP ?_
     refine BlindW.len (x := .tmp 110) (T := 55) (p := na) (n := names.length) (c := nc) rfl rfl rfl Tryz.underlying55 ?_ ?_
     ·rfl
     refine wXP ?_
     refine ReadC.one (T := 22) (x := .tmp 112) (a := some ⟨cb, 0, none⟩) (q := 4) (k := 5) (xs := [.int .i64 8, .int .i64 num, .string (bs text), .slice na names.length nc, .slice ia items.length ic]) (.slice ia items.length ic) ?_ ?_ ?_ ?_ ?_ ?_
     ·rfl
     ·rfl
     ·rfl
     ·exact fun w hw => hw
     ·rfl
     refine wXP ?_
     refine BlindW.len (x := .tmp 113) (T := 22) (p := ia) (n := items.length) (c := ic) rfl rfl rfl Tryz.underlying22 ?_ ?_
     ·rfl
     refine wXP ?_
     refine brd_eq (fun hln => ?_) (fun hln => ?_)
     ·-- fun w hw => hw.2.1: why the kind holds
      refine wXP ?_
      refine ReadC.one (T := 55) (x := .tmp 120) (a := some ⟨cb, 0, none⟩) (q := 3) (k := 5) (xs := [.int .i64 8, .int .i64 num, .string (bs text), .slice na names.length nc, .slice ia items.length ic]) (.slice na names.length nc) ?_ ?_ ?_ ?_ ?_ ?_
      ·rfl
      ·rfl
      ·rfl
      ·exact fun w hw => hw
      ·rfl
      refine wXP ?_
      refine BlindW.len (x := .tmp 121) (T := 55) (p := na) (n := names.length) (c := nc) rfl rfl rfl Tryz.underlying55 ?_ ?_
      ·rfl
      refine wXP ?_
      refine Compact_n 4 (sortS names) names.length (sortS_len names) b2 c2 (by omega) hc2 rfl fun ys => ?_
      refine wXP ?_
      refine BlindW.len (x := .tmp 118) (T := 55) (p := some ⟨b2, 0, none⟩) (n := (Lib.compact (sortS names)).length) (c := c2) rfl rfl rfl Tryz.underlying55 ?_ ?_
      ·rfl
      refine wXP ?_
      have hcs := compact_sort names
      refine brd_eq (fun hcp => ?_) (fun hcp => ?_)
      ·-- fun w hw => hw.2.1: why the kind holds
       refine wXP ?_
       refine ReadC.one (T := 55) (x := .tmp 126) (a := some ⟨cb, 0, none⟩) (q := 3) (k := 5) (xs := [.int .i64 8, .int .i64 num, .string (bs text), .slice na names.length nc, .slice ia items.length ic]) (.slice na names.length nc) ?_ ?_ ?_ ?_ ?_ ?_
       ·rfl
       ·rfl
       ·rfl
       ·exact fun w hw => hw
       ·rfl
       refine wXP ?_
       refine call1 (HasS_c (fun s => !iiB s) 114 #[] (fun _ => True) na nc names (fun p hp H _ => plain1_c p (hnw p hp) H) hna (by omega) _ (fun w hw => ⟨hw.1.1, trivial⟩)) ?_
       refine wXP ?_
       exact out_bool (by
        have hmx : -Go.Core.maxI ≤ 0 ∧ (0 : Int) ≤ Go.Core.maxI := by decide
        have hl : names.length = items.length := by omega
        have hnd : names.Nodup := hcs.1 (by unfold sortS at hcp; omega)
        have hal : (!names.any fun s => !iiB s) = names.all iiB := by rw [List.all_eq_not_any_not]
        rw [hal]
        unfold Go.Core.plainS
        simp [hl, hnd, hu, hmx, hf])
      ·-- fun w hw => hw.2.1: why the kind holds
       refine wXP ?_
       exact out_bool (by
        have hnd : ¬ names.Nodup := fun h => hcp (by have := hcs.2 h; unfold sortS; omega)
        unfold Go.Core.plainS
        simp [hnd])
     ·-- fun w hw => hw.2.1: why the kind holds
      refine wXP ?_
      exact out_bool (by
       have : ¬ names.length = items.length := by omega
       unfold Go.Core.plainS; simp [this])
  | false =>
   refine .inr ⟨by clear hes; revert p0 p13 p5 p10 p14 p15; decide +kernel, plN p0 p13 p5 p10 p14 p15 true, by simp [plN], ?_⟩
   intro i hi
   have h17 : i < 17 := by
    obtain ⟨_, o, ho, _⟩ := mem_ready.1 hi
    exact (Array.getElem?_eq_some_iff.1 ho).1
   obtain rfl | rfl | rfl | rfl | rfl | rfl | rfl | rfl | rfl | rfl | rfl | rfl | rfl | rfl | rfl | rfl | rfl : i = 0 ∨ i = 1 ∨ i = 2 ∨ i = 3 ∨ i = 4 ∨ i = 5 ∨ i = 6 ∨ i = 7 ∨ i = 8 ∨ i = 9 ∨ i = 10 ∨ i = 11 ∨ i = 12 ∨ i = 13 ∨ i = 14 ∨ i = 15 ∨ i = 16 := by omega
   ·obtain ⟨rfl, rfl, rfl, rfl, rfl⟩ : p0 = false ∧ p5 = false ∧ p10 = false ∧ p14 = false ∧ p15 = false := by
     clear hes
     revert p0 p13 p5 p10 p14 p15
     decide +kernel
    (conv => whnf)
    refine EffW.mkMap rfl fun b' => ?_
    (conv => whnf)
    exact ⟨true, p13, false, false, false, false, false, b', 0, #[], by cases p13 <;> rfl, by cases p13 <;> rfl, rfl, rfl, rfl, MapIs.nil.congr fun k => by simp [plWords]⟩
   ·exfalso
    clear hes
    revert p0 p13 p5 p10 p14 p15
    decide +kernel
   ·exfalso
    clear hes
    revert p0 p13 p5 p10 p14 p15
    decide +kernel
   ·exfalso
    clear hes
    revert p0 p13 p5 p10 p14 p15
    decide +kernel
   ·exfalso
    clear hes
    revert p0 p13 p5 p10 p14 p15
    decide +kernel
   ·obtain ⟨rfl, rfl, rfl⟩ : p0 = true ∧ p5 = false ∧ p15 = false := by
     clear hes
     revert p0 p13 p5 p10 p14 p15
     decide +kernel
    (conv => whnf)
    refine EffW.putMap 2 rfl Tryz.underlying125 Tryz.underlying3 rfl rfl rfl rfl (hes.none (by simp [plWords])) ?_
    (conv => whnf)
    exact ⟨true, p13, true, p10, p14, false, false, b, cl + 1, _, by clear hes hi; revert p13 p10 p14; decide, by cases p13 <;> cases p10 <;> cases p14 <;> rfl, rfl, rfl, rfl, (hes.put (by simp [plWords]) _ cl).congr fun k => by
     unfold plWords
     by_cases hk : k = 4
     ·subst hk; simp
     ·simp [hk]⟩
   ·exfalso
    clear hes
    revert p0 p13 p5 p10 p14 p15
    decide +kernel
   ·exfalso
    clear hes
    revert p0 p13 p5 p10 p14 p15
    decide +kernel
   ·exfalso
    clear hes
    revert p0 p13 p5 p10 p14 p15
    decide +kernel
   ·exfalso
    clear hes
    revert p0 p13 p5 p10 p14 p15
    decide +kernel
   ·obtain ⟨rfl, rfl, rfl⟩ : p0 = true ∧ p10 = false ∧ p15 = false := by
     clear hes
     revert p0 p13 p5 p10 p14 p15
     decide +kernel
    (conv => whnf)
    refine EffW.putMap 2 rfl Tryz.underlying125 Tryz.underlying3 rfl rfl rfl rfl (hes.none (by simp [plWords])) ?_
    (conv => whnf)
    exact ⟨true, p13, p5, true, p14, false, false, b, cl + 1, _, by clear hes hi; revert p13 p5 p14; decide, by cases p13 <;> cases p5 <;> cases p14 <;> rfl, rfl, rfl, rfl, (hes.put (by simp [plWords]) _ cl).congr fun k => by
     unfold plWords
     by_cases hk : k = 5
     ·subst hk; simp
     ·simp [hk]⟩
   ·exfalso
    clear hes
    revert p0 p13 p5 p10 p14 p15
    decide +kernel
   ·exfalso
    clear hes
    revert p0 p13 p5 p10 p14 p15
    decide +kernel
   ·obtain ⟨rfl, rfl, rfl⟩ : p13 = false ∧ p14 = false ∧ p15 = false := by
     clear hes
     revert p0 p13 p5 p10 p14 p15
     decide +kernel
    (conv => whnf)
    refine call1 (IsConst_c text htl _) ?_
    (conv => whnf)
    exact ⟨p0, true, p5, p10, false, false, false, b, cl, es, by clear hes hi; revert p0 p5 p10; decide, by cases p0 <;> cases p5 <;> cases p10 <;> rfl, rfl, rfl, rfl, hes⟩
   ·obtain ⟨rfl, rfl, rfl, rfl⟩ : p0 = true ∧ p14 = false ∧ p15 = false ∧ p13 = true := by
     clear hes
     revert p0 p13 p5 p10 p14 p15
     decide +kernel
    (conv => whnf)
    refine EffW.putMap 2 rfl Tryz.underlying125 Tryz.underlying3 rfl rfl rfl rfl (hes.none (by simp [plWords])) ?_
    (conv => whnf)
    exact ⟨true, true, p5, p10, true, false, false, b, cl + 1, _, by clear hes hi; revert p5 p10; decide, by cases p5 <;> cases p10 <;> rfl, rfl, rfl, rfl, (hes.put (by simp [plWords]) _ cl).congr fun k => by
     unfold plWords
     by_cases hk : k = 8
     ·subst hk; simp
     ·simp [hk]⟩
   ·obtain ⟨rfl, rfl, rfl, rfl, rfl, rfl⟩ : p0 = true ∧ p13 = true ∧ p5 = true ∧ p10 = true ∧ p14 = true ∧ p15 = false := by
     clear hes
     revert p0 p13 p5 p10 p14 p15
     decide +kernel
    (conv => whnf)
    exact ⟨true, true, true, true, true, true, false, b, cl, es, rfl, rfl, rfl, rfl, rfl, hes⟩
   ·obtain ⟨rfl, rfl, rfl, rfl, rfl, rfl⟩ : p0 = true ∧ p13 = true ∧ p5 = true ∧ p10 = true ∧ p14 = true ∧ p15 = true := by
     clear hes
     revert p0 p13 p5 p10 p14 p15
     decide +kernel
    (conv => whnf)
    exact ⟨true, true, true, true, true, true, true, b, cl, es, rfl, rfl, rfl, rfl, rfl, hes⟩
 ·refine wX ?_
  refine ReadC.one (T := 9) (x := .tmp 8) (a := some ⟨cb, 0, none⟩) (q := 2) (k := 5) (xs := [.int .i64 kind, .int .i64 num, .string (bs text), .slice na names.length nc, .slice ia items.length ic]) (.string (bs text)) ?_ ?_ ?_ ?_ ?_ ?_
  ·rfl
  ·rfl
  ·rfl
  ·exact fun w hw => hw
  ·rfl
  refine wX ?_
  refine BlindW.lenS (x := .tmp 9) (T := 9) (b := bs text) rfl rfl rfl Tryz.underlying9 ?_ ?_
  ·rfl
  rw [bs_size]
  refine wX ?_
  refine ReadC.one (T := 9) (x := .tmp 12) (a := some ⟨cb, 0, none⟩) (q := 2) (k := 5) (xs := [.int .i64 kind, .int .i64 num, .string (bs text), .slice na names.length nc, .slice ia items.length ic]) (.string (bs text)) ?_ ?_ ?_ ?_ ?_ ?_
  ·rfl
  ·rfl
  ·rfl
  ·exact fun w hw => hw
  ·rfl
  refine wX ?_
  refine BlindW.lenS (x := .tmp 13) (T := 9) (b := bs text) rfl rfl rfl Tryz.underlying9 ?_ ?_
  ·rfl
  rw [bs_size]
  refine wX ?_
  refine ReadC.one (T := 9) (x := .tmp 16) (a := some ⟨cb, 0, none⟩) (q := 2) (k := 5) (xs := [.int .i64 kind, .int .i64 num, .string (bs text), .slice na names.length nc, .slice ia items.length ic]) (.string (bs text)) ?_ ?_ ?_ ?_ ?_ ?_
  ·rfl
  ·rfl
  ·rfl
  ·exact fun w hw => hw
  ·rfl
  refine wX ?_
  exact ⟨false, false, false, false, false, false, false, 0, 0, #[], rfl, rfl, rfl, rfl, rfl, MapIs.nil.congr fun k => by simp [plWords]⟩
end Go.Proofs.YtgogonnnojcioaaGreatDoor
namespace Go.AX
def restK : List Ent → List Ent → List Ent
 | [], _ => []
 | h :: H, [] => h :: restK H []
 | h :: H, .fact _ :: G => h :: restK H G
 | h :: H, .dead :: G => h :: restK H G
 | .fact F :: H, _ :: G => .fact F :: restK H G
 | _ :: H, _ :: G => .dead :: restK H G
theorem restK_len : ∀ H G : List Ent, (restK H G).length = H.length
 | [], _ => rfl
 | _ :: H, [] => by simp [restK, restK_len H []]
 | h :: H, g :: G => by cases g <;> cases h <;> simp [restK, restK_len H G]
theorem restK_get : ∀ (H G : List Ent) (i : Nat) (e : Ent), (restK H G)[i]? = some e → H[i]? = some e ∨ e = .dead
 | [], _, _, _, h => by cases h
 | h :: H, [], 0, e, he => .inl he
 | h :: H, [], i + 1, e, he => restK_get H [] i e he
 | h :: H, g :: G, 0, e, he => by cases g <;> cases h <;> first | exact .inl he | exact .inr (Option.some.inj he).symm
 | h :: H, g :: G, i + 1, e, he => restK_get H G i e (by cases g <;> cases h <;> exact he)
theorem restK_stay : ∀ (H G : List Ent) (i : Nat) (e f : Ent) (ρ : List Loc) (b : Nat), entB ρ i e b → f.isApp = true → G[i]? = some e → (restK H G)[i]? = some f → False
 | [], _, _, _, _, _, _, _, _, _, h => by cases h
 | h :: H, [], _, _, _, _, _, _, _, h1, _ => by cases h1
 | h :: H, g :: G, 0, e, f, ρ, b, he, hf, h1, h2 => by
  obtain rfl := Option.some.inj h1
  cases g <;> first | (cases he; done) | (cases h <;> (obtain rfl := Option.some.inj h2; cases hf))
 | h :: H, g :: G, i + 1, e, f, ρ, b, he, hf, h1, h2 => restK_stay H G i e f (ρ.drop 1) b (by
   revert he
   cases e <;> simp [entB]) hf h1 (by cases g <;> cases h <;> exact h2)
def SealE (R : World → Prop) (h g : Ent) : Prop := g = .dead ∨ g = h ∨ ∃ Γ, g = .fact Γ ∧ ∀ w, R w → Γ w
def SealR (R : World → Prop) : List Ent → List Ent → Prop
 | [], [] => True
 | h :: H, g :: G => SealE R h g ∧ SealR R H G
 | _, _ => False
theorem SealR.get {R : World → Prop} : ∀ {H G : List Ent}, SealR R H G → G.length = H.length ∧ ∀ (i : Nat) (g : Ent), G[i]? = some g → ∃ h, H[i]? = some h ∧ SealE R h g
 | [], [], _ => ⟨rfl, fun _ _ h => by cases h⟩
 | h :: H, g :: G, hs => by
  obtain ⟨h1, h2⟩ := SealR.get hs.2
  refine ⟨by simp [h1], fun i e he => ?_⟩
  cases i with
  | zero => obtain rfl := Option.some.inj he; exact ⟨h, rfl, hs.1⟩
  | succ i => exact h2 i e he
 | [], _ :: _, h => h.elim
 | _ :: _, [], h => h.elim
theorem turnS {H G : List Ent} (h : SealR (Facts (restK H G)) H G) : TurnS H G := by
 obtain ⟨hl, hg⟩ := h.get
 refine ⟨hl, fun ρ S w hs => ?_⟩
 have h1 := hs.dull (restK_len H G) (restK_get H G)
 have hno : ∀ (i : Nat) (e : Ent) (b : Nat), G[i]? = some e → entB ρ i e b → H[i]? = some e := fun i e b he hb => by
  obtain ⟨f, hf, h2⟩ := hg i e he
  rcases h2 with rfl | rfl | ⟨Γ, rfl, _⟩
  ·cases hb
  ·exact hf
  ·cases hb
 have hmb : ∀ b, mb ρ G b → mb ρ H b := fun b ⟨i, e, he, hb⟩ => ⟨i, e, hno i e b he hb, hb⟩
 refine ⟨fun b => S b ∨ appB (restK H G) b, ⟨by rw [hs.len, hl], fun i e he => ?_, fun i j e f b he hf hb hc => hs.inj i j e f b (hno i e b he hb) (hno j f b hf hc) hb hc, fun b ⟨i, e, he, hb⟩ hS => ?_, fun b hb => ?_⟩, ⟨[], by simp⟩, rfl, rfl, rfl, Nat.le_refl _, fun _ _ _ => rfl, fun b hb => ?_, fun b hb => .inl (hmb b hb)⟩
 ·obtain ⟨f, hf, h2⟩ := hg i e he
  rcases h2 with rfl | rfl | ⟨Γ, rfl, hΓ⟩
  ·trivial
  ·exact (hs.ent i _ hf).grow fun b hb => .inl hb
  ·exact h1.imm.mono hΓ
 ·have a1 := hno i e b he hb
  rcases hS with hS | hS
  ·exact hs.out b ⟨i, _, a1, hb⟩ hS
  ·obtain ⟨j, f, hf, hfa, hfb⟩ := appB_get hS
   rcases restK_get H G j f hf with hH | rfl
   ·obtain rfl := hs.inj i j _ f b a1 hH hb (hfb ρ j)
    exact restK_stay H G i e f ρ b hb hfa he hf
   ·cases hfa
 ·rcases hb with hb | hb
  ·exact hs.low b hb
  ·obtain ⟨i, e, he, heb⟩ := appB_mb (ρ := ρ) hb
   exact h1.blk_lt he heb
 ·rcases hb with hb | hb
  ·exact .inl hb
  ·obtain ⟨j, f, hf, hfa, hfb⟩ := appB_get hb
   rcases restK_get H G j f hf with hH | rfl
   ·exact .inr (.inl ⟨j, f, hH, hfb _ _⟩)
   ·cases hfa
theorem turn_refl (H : List Ent) : TurnS H H := ⟨rfl, fun ρ S w hs => ⟨S, hs, Ev.refl _ _ _ _⟩⟩
end Go.AX
namespace Go.Proofs.YtgogonnnojcioaaGreatDoor
open Go.AX Go.RowKit Go.Core
set_option maxRecDepth 20000
def Small (l : List CellP) : Prop := l.length ≤ 2000 ∧ ∀ p ∈ l, p.c.names.length ≤ 2000 ∧ p.c.items.length ≤ 2000
def GrR (l : List Cell) (v : Value) (G : World → Prop) : Prop := ∃ (oa : Option Addr) (oc : Nat) (m : List CellP), v = .slice oa m.length oc ∧ (oa = none → m = []) ∧ m.map (·.c) = l ∧ (∀ p ∈ m, CellOk p) ∧ ∀ w, G w → GrF oa m w
structure DSt where
 i : Nat
 oa : Option Addr
 oc : Nat
 m : List CellP
def DInv (l : List CellP) : DSt → Prop := fun ⟨i, oa, oc, m⟩ => i ≤ l.length ∧ m.map (·.c) = (l.take i).map (·.c) ∧ (∀ p ∈ m, CellOk p) ∧ (oa = none → m = []) ∧ m.length ≤ oc
theorem DInv.len {l : List CellP} {i oc : Nat} {oa : Option Addr} {m : List CellP} (h : DInv l ⟨i, oa, oc, m⟩) : m.length = i := by
 have h1 := congrArg List.length h.2.1
 simp only [List.length_map, List.length_take] at h1
 have := h.1
 omega
theorem grC_len (l : List CellP) : (grC l).length = l.length * 5 := by
 unfold grC
 induction l with
 | nil => rfl
 | cons p l ih => rw [List.flatMap_cons, List.length_append, ih, List.length_cons]; show 5 + _ = _; omega
theorem grC_snoc (l : List CellP) (p : CellP) : grC (l ++ [p]) = grC l ++ cellC p := by unfold grC; rw [List.flatMap_append]; simp
end Go.Proofs.YtgogonnnojcioaaGreatDoor
namespace Go.Core
theorem any_range (n : Nat) (c : Cell) : (c.items.any fun i => decide (i < 0) || decide (i ≥ (n : Int))) = !rangeB n c := by
 unfold rangeB
 rw [List.all_eq_not_any_not, Bool.not_not]
 exact congrArg (fun f => c.items.any f) (funext fun i => by rw [Bool.eq_iff_iff]; simp)
end Go.Core
namespace Go.Proofs.YtgogonnnojcioaaGreatDoor
open Go.AX Go.RowKit Go.Core Go.Scan
set_option maxRecDepth 20000
theorem plain_c (p : CellP) (hp : CellOk p) (hs : p.c.names.length ≤ 40000 ∧ p.c.items.length ≤ 40000) : ∀ H, (∀ w, Facts H w → CellF p w) → SpecH Tryz.prog 90 (pvs [cellV p]) H (Ret (.bool (Go.Core.plainS p.c)) H) := by
 obtain ⟨⟨kind, num, text, names, items⟩, na, nc, ia, ic⟩ := p
 exact plain_c0 kind num text names items na nc ia ic hp.na hp.ia hs.1 hs.2 hp.nw hp.tl
theorem out_c (x : Int) (b : Nat) (a : Option Addr) (n c : Nat) : ∀ H, (∀ w, Facts H w → SlAt (some ⟨b, 0, none⟩) 1 [.slice a n c] w) → SpecH Tryz.prog 91 (pvs [.int .i64 x, .pointer (some ⟨b, 0, none⟩)]) H (Ret (.bool (decide (x < 0) || decide (x ≥ (n : Int)))) H) := by
 refine factC hm Tryz.func91 (by kernel_rfl) rfl rfl ?_
 refine wX ?_
 refine brd_dec (fun h1 => ?_) (fun h1 => ?_)
 ·refine wX ?_
  exact out_bool (by simp [h1])
 ·refine wX ?_
  refine LdN.one (a := some ⟨b, 0, none⟩) (q := 0) (.slice a n c) rfl (fun w hw => hw.1) rfl ?_
  refine wX ?_
  exact out_bool (by simp [h1])
def errI (b : Bool) : Value := .int .i64 (if b then 0 else 1)
set_option maxHeartbeats 4000000 in
theorem Check_w (a : Option Addr) (ca : Nat) (l : List CellP) (ha : a = none → l = []) (hs : l.length ≤ 2000 ∧ ∀ p ∈ l, p.c.names.length ≤ 40000 ∧ p.c.items.length ≤ 40000) (hok : ∀ p ∈ l, CellOk p) :
  ∀ H, (∀ w, Facts H w → GrF a l w) → ∃ b : Bool, (b = true ↔ ValidP (l.map (·.c))) ∧ SpecH Tryz.prog 65 (pvs [.slice a l.length ca]) H (Ret (errI b) H) := by
 intro H hH
 obtain ⟨b, hb⟩ : ∃ b : Bool, b = true ↔ ValidP (l.map (·.c)) := by
  by_cases h : ValidP (l.map (·.c))
  ·exact ⟨true, fun _ => h, fun _ => rfl⟩
  ·exact ⟨false, (fun h => by cases h), fun h2 => absurd h2 h⟩
 refine ⟨b, hb, ?_⟩
 obtain ⟨hl, hsm⟩ := hs
 have hml : (l.map (·.c)).length = l.length := by simp
 have hno : ¬ ValidP (l.map (·.c)) → (1 : Int) = if b then 0 else 1 := fun h => by
  cases b with
  | false => rfl
  | true => exact absurd (hb.1 rfl) h
 refine factC hm Tryz.func65 (by kernel_rfl) rfl rfl ?_ H hH
 refine wXB ?_
 refine BoxN.known [.slice a l.length ca] rfl fun gb => ?_
 refine wXB ?_
 refine LdN.one (a := some ⟨gb, 0, none⟩) (q := 0) (.slice a l.length ca) rfl (fun w hw => hw.2.1) rfl ?_
 refine wXB ?_
 refine brd_dec (fun h0 => ?_) (fun h0 => ?_)
 ·refine wXB ?_
  exact out_int (hno fun h => by have := h.1; omega)
 refine wXB ?_
 refine LdN.one (a := some ⟨gb, 0, none⟩) (q := 0) (.slice a l.length ca) rfl (fun w hw => hw.2.1) rfl ?_
 refine wXB ?_
 refine loopS Nat (fun i => i ≤ l.length ∧ ∀ p ∈ l.take i, cellD l.length p.c = true) (fun i => mkS Tryz.f65.ntmps 0 [(1, .c (.v (.pointer (some ⟨gb, 0, none⟩)))), (10, .c (.v (.slice a l.length ca))), (11, .c (.v (.int .i64 (l.length : Int)))), (12, .c (.v (.int .i64 (i : Int))))]) (fun i => l.length - i) rfl (fun _ => rfl) 0 ⟨Nat.zero_le _, by simp⟩ ?_ ?_
 ·exact wKK
 intro i ⟨hi, hc⟩
 refine wXB ?_
 refine brd_dec (fun h1 => ?_) (fun h1 => ?_)
 ·obtain ⟨p, hp⟩ : ∃ p, l[i]? = some p := ⟨_, List.getElem?_eq_getElem (by omega)⟩
  have hpm := List.mem_of_getElem? hp
  have hpo := hok p hpm
  have hsa : a.isSome = true := by
   cases a with
   | none => rw [ha rfl] at hp; cases hp
   | some b => rfl
  have hbad : (Go.Core.plainS p.c && rangeB l.length p.c) = false → ¬ ValidP (l.map (·.c)) := fun h hv => by
   have := hv.2.1 p.c (List.mem_map.2 ⟨p, hpm, rfl⟩)
   rw [hml, ← cell_eq, h] at this
   cases this
  refine wXB ?_
  refine Nd.mk ⟨hsa, by omega, by omega⟩ ?_
  refine wXB ?_
  refine LdN.agg (cellC p) rfl (fun w hw => hw.1.1) rfl (fun k hk => by rw [Int.toNat_natCast]; exact grC_get l i k hk hp) ?_
  refine wXB ?_
  refine BoxN.known [.int .i64 0, .int .i64 0, .string { data := #[] }, .slice none 0 0, .slice none 0 0] rfl fun cb => ?_
  refine wXB ?_
  refine EffW.appTo (i := 2) (q := 0) (ys := cellC p) (cellC p) 5 rfl rfl rfl rfl rfl rfl rfl (Nat.le_of_ble_eq_true rfl) rfl rfl ?_
  refine wXB ?_
  refine LdN.agg (a := some ⟨cb, 0, none⟩) (q := 0) (cellC p) rfl (fun w hw => hw.2.2.1) rfl (fun k hk => by rw [Nat.zero_add]) ?_
  refine wXB ?_
  refine call1 (plain_c p hpo (hsm p hpm) _ (fun w hw => hw.1.2 p hpm)) ?_
  cases hpl : Go.Core.plainS p.c with
  | false =>
   refine wXB ?_
   exact out_int (hno (hbad (by rw [hpl]; rfl)))
  | true =>
  refine wXB ?_
  refine LdN.one (a := some ⟨cb, 0, none⟩) (q := 4) (.slice p.ia p.c.items.length p.ic) rfl (fun w hw => hw.2.2.1) rfl ?_
  refine wXB ?_
  refine SpecH.args (args' := pvs [.slice p.ia p.c.items.length p.ic, .func (.func 91) #[] #[.pointer (some ⟨gb, 0, none⟩)]]) (by simp [pvs, opvs, opv, nth, plainEv]; try rfl) ?_
  refine call1 (HasI_c (fun x => decide (x < 0) || decide (x ≥ (l.length : Int))) 91 #[.pointer (some ⟨gb, 0, none⟩)] (SlAt (some ⟨gb, 0, none⟩) 1 [.slice a l.length ca]) p.ia p.ic p.c.items (fun x _ H hH => out_c x gb a l.length ca H hH) hpo.ia hpo.il _ (fun w hw => ⟨(hw.1.2 p hpm).2, hw.2.1⟩)) ?_
  rw [any_range]
  cases hrg : rangeB l.length p.c with
  | false =>
   refine wXB ?_
   exact out_int (hno (hbad (by rw [hpl, hrg]; rfl)))
  | true =>
  refine wXB ?_
  refine ⟨i + 1, ⟨by omega, all_step hc hp (by rw [← cell_eq, hpl, hrg]; rfl)⟩, by omega, ?_, wHH⟩
  exact wKK
 have hil : i = l.length := by omega
 subst hil
 rw [List.take_length] at hc
 clear h1
 refine wXB ?_
 refine LdN.one (a := some ⟨gb, 0, none⟩) (q := 0) (.slice a l.length ca) rfl (fun w hw => hw.2.1) rfl ?_
 refine wXB ?_
 refine loopS Nat (fun i => i ≤ l.length ∧ ∀ p ∈ l.take i, p.c.kind = 7 → ¬ Twice (l.map (·.c)) p.c.items) (fun i => mkS Tryz.f65.ntmps 0 [(1, .c (.v (.pointer (some ⟨gb, 0, none⟩)))), (26, .c (.v (.slice a l.length ca))), (27, .c (.v (.int .i64 (l.length : Int)))), (28, .c (.v (.int .i64 (i : Int))))]) (fun i => l.length - i) rfl (fun _ => rfl) 0 ⟨Nat.zero_le _, by simp⟩ ?_ ?_
 ·exact wKK
 intro i ⟨hi, ht⟩
 refine wXB ?_
 refine brd_dec (fun h1 => ?_) (fun h1 => ?_)
 ·obtain ⟨p, hp⟩ : ∃ p, l[i]? = some p := ⟨_, List.getElem?_eq_getElem (by omega)⟩
  have hpm := List.mem_of_getElem? hp
  have hpo := hok p hpm
  have hsa : a.isSome = true := by
   cases a with
   | none => rw [ha rfl] at hp; cases hp
   | some b => rfl
  refine wXB ?_
  refine Nd.mk ⟨hsa, by omega, by omega⟩ ?_
  refine wXB ?_
  refine LdN.agg (cellC p) rfl (fun w hw => hw.1.1) rfl (fun k hk => by rw [Int.toNat_natCast]; exact grC_get l i k hk hp) ?_
  refine wXB ?_
  refine BoxN.known [.int .i64 0, .int .i64 0, .string { data := #[] }, .slice none 0 0, .slice none 0 0] rfl fun cb => ?_
  refine wXB ?_
  refine EffW.appTo (i := 2) (q := 0) (ys := cellC p) (cellC p) 5 rfl rfl rfl rfl rfl rfl rfl (Nat.le_of_ble_eq_true rfl) rfl rfl ?_
  refine wXB ?_
  refine LdN.one (a := some ⟨cb, 0, none⟩) (q := 0) (.int .i64 p.c.kind) rfl (fun w hw => hw.2.2.1) rfl ?_
  refine wXB ?_
  refine brd_eq (fun h7 => ?_) (fun h7 => ?_)
  ·refine wXB ?_
   refine LdN.one (a := some ⟨gb, 0, none⟩) (q := 0) (.slice a l.length ca) rfl (fun w hw => hw.2.1) rfl ?_
   refine wXB ?_
   refine LdN.agg (a := some ⟨cb, 0, none⟩) (q := 0) (cellC p) rfl (fun w hw => hw.2.2.1) rfl (fun k hk => by rw [Nat.zero_add]) ?_
   refine wXB ?_
   obtain ⟨t, ht1, ht2⟩ := twice_c a ca l p ha (by omega) hpo (cellD_in (hc p hpm)) [.fact (GrF a l), .app 23 1 [.slice a l.length ca] (some ⟨gb, 0, none⟩) 1 1, .app 57 5 (cellC p) (some ⟨cb, 0, none⟩) 1 1] (fun w hw => ⟨hw.1, hw.1.2 p hpm⟩)
   refine call1 ht2 ?_
   cases ht3 : t with
   | true =>
    refine wXB ?_
    exact out_int (hno fun h => h.2.2 p.c (List.mem_map.2 ⟨p, hpm, rfl⟩) h7 (ht1.1 ht3))
   | false =>
   refine wXB ?_
   refine ⟨i + 1, ⟨by omega, all_step ht hp (fun _ h => by rw [ht1.2 h] at ht3; cases ht3)⟩, by omega, ?_, wHH⟩
   exact wKK
  ·refine wXB ?_
   refine ⟨i + 1, ⟨by omega, all_step ht hp (fun h => absurd h h7)⟩, by omega, ?_, wHH⟩
   exact wKK
 ·have hil : i = l.length := by omega
  subst hil
  rw [List.take_length] at ht
  refine wXB ?_
  have hbt : b = true := hb.2 ⟨by omega, fun c hcm => by
    obtain ⟨p, hp, rfl⟩ := List.mem_map.1 hcm
    rw [hml]
    exact hc p hp, fun c hcm => by
    obtain ⟨p, hp, rfl⟩ := List.mem_map.1 hcm
    exact ht p hp⟩
  exact out_int (by rw [hbt]; rfl)
theorem Check_c (a : Option Addr) (ca : Nat) (l : List CellP) (ha : a = none → l = []) (hs : Small l) (hok : ∀ p ∈ l, CellOk p) :
  ∀ H, (∀ w, Facts H w → GrF a l w) → ∃ b : Bool, (b = true ↔ ValidP (l.map (·.c))) ∧ SpecH Tryz.prog 65 (pvs [.slice a l.length ca]) H (Ret (errI b) H) :=
 Check_w a ca l ha ⟨hs.1, fun p hp => ⟨Nat.le_trans (hs.2 p hp).1 (by decide), Nat.le_trans (hs.2 p hp).2 (by decide)⟩⟩ hok
end Go.Proofs.YtgogonnnojcioaaGreatDoor
namespace Go.Core
def AskP (g : List Cell) (cs : List Int) : Prop := ValidP g ∧ ∀ x ∈ cs, 0 ≤ x ∧ x < (g.length : Int)
end Go.Core
namespace Go.Proofs.YtgogonnnojcioaaGreatDoor
open Go.AX Go.RowKit Go.Core Go.Scan
set_option maxRecDepth 20000
theorem out2_c (x : Int) (b : Nat) (a : Option Addr) (n c : Nat) : ∀ H, (∀ w, Facts H w → SlAt (some ⟨b, 0, none⟩) 1 [.slice a n c] w) → SpecH Tryz.prog 80 (pvs [.int .i64 x, .pointer (some ⟨b, 0, none⟩)]) H (Ret (.bool (decide (x < 0) || decide (x ≥ (n : Int)))) H) := by
 refine factC hm Tryz.func80 (by kernel_rfl) rfl rfl ?_
 refine wX ?_
 refine brd_dec (fun h1 => ?_) (fun h1 => ?_)
 ·refine wX ?_
  exact out_bool (by simp [h1])
 ·refine wX ?_
  refine LdN.one (a := some ⟨b, 0, none⟩) (q := 0) (.slice a n c) rfl (fun w hw => hw.1) rfl ?_
  refine wX ?_
  exact out_bool (by simp [h1])
set_option maxHeartbeats 1000000 in
theorem asked_c (a : Option Addr) (ca : Nat) (l : List CellP) (ha : a = none → l = []) (hs : Small l) (hok : ∀ p ∈ l, CellOk p) (sa : Option Addr) (sc : Nat) (cs : List Int) (hsa : sa = none → cs = []) (hcl : cs.length ≤ 2000) :
  ∀ H, (∀ w, Facts H w → GrF a l w ∧ SlAt sa (cs.length * 1) (iC cs) w) → ∃ b : Bool, (b = true ↔ AskP (l.map (·.c)) cs) ∧ SpecH Tryz.prog 53 (pvs [.slice a l.length ca, .slice sa cs.length sc]) H (Ret (errI b) H) := by
 intro H hH
 obtain ⟨b, hb⟩ : ∃ b : Bool, b = true ↔ AskP (l.map (·.c)) cs := by
  by_cases h : AskP (l.map (·.c)) cs
  ·exact ⟨true, fun _ => h, fun _ => rfl⟩
  ·exact ⟨false, (fun h => by cases h), fun h2 => absurd h2 h⟩
 refine ⟨b, hb, ?_⟩
 refine factC hm Tryz.func53 (by kernel_rfl) rfl rfl ?_ H hH
 refine wXB ?_
 refine BoxN.known [.slice a l.length ca] rfl fun gb => ?_
 refine wXB ?_
 refine SpecH.args (args' := pvs [.slice sa cs.length sc, .func (.func 80) #[] #[.pointer (some ⟨gb, 0, none⟩)]]) (by simp [pvs, opvs, opv, nth, plainEv]; try rfl) ?_
 refine call1 (HasI_c (fun x => decide (x < 0) || decide (x ≥ (l.length : Int))) 80 #[.pointer (some ⟨gb, 0, none⟩)] (SlAt (some ⟨gb, 0, none⟩) 1 [.slice a l.length ca]) sa sc cs (fun x _ H hH => out2_c x gb a l.length ca H hH) hsa (by omega) _ (fun w hw => ⟨hw.1.2, hw.2.1⟩)) ?_
 cases hany : cs.any fun x => decide (x < 0) || decide (x ≥ (l.length : Int)) with
 | true =>
  refine wXB ?_
  obtain ⟨x, hx, hx2⟩ := List.any_eq_true.1 hany
  refine out_int ?_
  cases b with
  | false => rfl
  | true =>
   have h1 := (hb.1 rfl).2 x hx
   simp at hx2 h1
   omega
 | false =>
  refine wXB ?_
  refine LdN.one (a := some ⟨gb, 0, none⟩) (q := 0) (.slice a l.length ca) rfl (fun w hw => hw.2.1) rfl ?_
  refine wXB ?_
  obtain ⟨t, ht1, ht2⟩ := Check_c a ca l ha hs hok [.fact (fun w => GrF a l w ∧ SlAt sa (cs.length * 1) (iC cs) w), .app 23 1 [.slice a l.length ca] (some ⟨gb, 0, none⟩) 1 1] (fun w hw => hw.1.1)
  have hbt : b = t := by
   rw [Bool.eq_iff_iff, hb, ht1]
   refine ⟨fun h => h.1, fun h => ⟨h, fun x hx => ?_⟩⟩
   have := List.any_eq_false.1 hany x hx
   simp at this ⊢
   omega
  refine call1 ht2 ?_
  rw [hbt]
  refine wXB ?_
  rfl
end Go.Proofs.YtgogonnnojcioaaGreatDoor
namespace Go.Proofs.YtgogonnnojcioaaGreatDoor
open Go.AX Go.RowKit Go.Core
set_option maxRecDepth 20000
variable (gv : Value) (F : World → Prop) (way : List Int) (j : BSt)
end Go.Proofs.YtgogonnnojcioaaGreatDoor
namespace Go.Core
structure Short (leafT : Cell → List UInt8) (g : List Cell) : Prop where
 leaf : ∀ a, isLeaf (at_ g a) = true → (leafT (at_ g a)).length ≤ 10000
 text : ∀ a, (at_ g a).kind = 8 → (at_ g a).text.length ≤ 2000
 names : ∀ a, ∀ s ∈ (at_ g a).names, s.length ≤ 40
 items : ∀ a, (at_ g a).items.length ≤ 2000
section
variable {M : Nat} {leafT : Cell → List UInt8} {g : List Cell}
theorem name_le (h : Short leafT g) (a : Int) (i : Nat) : ((at_ g a).names.getD i []).length ≤ 40 := by
 rw [List.getD_eq_getElem?_getD]
 cases hi : (at_ g a).names[i]? with
 | none => simp
 | some s => exact h.names a s (List.mem_of_getElem? hi)
theorem front_le (h : Short leafT g) (a : Int) : (frontT (at_ g a)).length ≤ 2002 := by
 unfold frontT
 split
 ·simp
 split
 ·have := h.text a (by assumption); simp; omega
 ·simp
theorem first_le (h : Short leafT g) (a : Int) : (firstD (at_ g a)).length ≤ 2003 := by
 have := front_le h a
 unfold firstD
 split
 ·simp; omega
 ·omega
theorem back_le (c : Cell) : (backT c).length = 1 := by unfold backT; split <;> (try split) <;> rfl
theorem mark_le (c : Cell) : (markT c).length ≤ 4 := by unfold markT; split <;> simp
theorem preD_le (h : Short leafT g) (a : Int) (i : Nat) : (preD (at_ g a) i).length ≤ 50 := by
 have := name_le h a i
 unfold preD
 rw [List.length_append]
 have h1 : (if (at_ g a).kind = 7 ∧ i % 2 = 1 then [32, 61, 62, 32] else if 0 < i then [44, 32] else ([] : List UInt8)).length ≤ 4 := by
  split
  ·simp
  split <;> simp
 have h2 : (if (at_ g a).kind = 8 then (at_ g a).names.getD i [] ++ [61] else ([] : List UInt8)).length ≤ 41 := by
  split
  ·simp only [List.length_append, List.length_cons, List.length_nil]; omega
  ·simp
 omega
theorem foldD_len {f : List UInt8 → Int → List UInt8} {pre : Nat → List UInt8} {p X : Nat} (hp : ∀ i, (pre i).length ≤ p) (h2 : ∀ o k, o.length ≤ M + p → (f o k).length ≤ X) :
  ∀ (l : List Int) (i : Nat) (out : List UInt8), (foldD M f pre i l out).length ≤ max out.length X
 | [], _, out => by unfold foldD; omega
 | k :: l, i, out => by
  unfold foldD
  split
  ·have hpi := hp i
   have h3 := h2 (out ++ pre i) k (by rw [List.length_append]; omega)
   have := foldD_len hp h2 l (i + 1) (f (out ++ pre i) k)
   omega
  ·omega
theorem doc_len (h : Short leafT g) : ∀ (n : Nat) (out : List UInt8) (way : List Int) (a : Int), (docS M leafT g n out way a).length ≤ max out.length M + n * 200000
 | 0, out, way, a => by unfold docS; omega
 | n + 1, out, way, a => by
  have hf := front_le h a
  have hd := first_le h a
  have hb := back_le (at_ g a)
  have hm := mark_le (at_ g a)
  unfold docS
  split
  ·rename_i hl
   have := h.leaf a hl
   rw [List.length_append]; omega
  split
  ·simp only [List.length_append]; omega
  ·rw [List.length_append]
   have := foldD_len (M := M) (f := fun o k => docS M leafT g n o (way ++ [a]) k) (pre := preD (at_ g a)) (p := 50) (X := M + 50 + n * 200000) (preD_le h a) (fun o k ho => by have := doc_len h n o (way ++ [a]) k; omega) (at_ g a).items 0 (out ++ firstD (at_ g a))
   rw [List.length_append] at this
   omega
end
end Go.Core
namespace Go.Core
theorem way_le {n : Nat} {way : List Int} (hn : way.Nodup) (hr : ∀ x ∈ way, 0 ≤ x ∧ x < (n : Int)) : way.length ≤ n := by
 have h1 : (way.map Int.toNat).Nodup := (List.pairwise_map.2 (hn.imp_of_mem fun {a b} ha hb hab => by
  have := hr a ha
  have := hr b hb
  omega))
 have := Go.AX.nodup_len (b := List.range n) h1 fun x hx => by
  obtain ⟨y, hy, rfl⟩ := List.mem_map.1 hx
  have := hr y hy
  exact List.mem_range.2 (by omega)
 simpa using this
def leafS (qt : List UInt8 → List UInt8) (it : Int → List UInt8) (c : Cell) : List UInt8 :=
 if c.kind = 0 then [110, 105, 108] else if c.kind = 1 then [116, 114, 117, 101] else if c.kind = 2 then [102, 97, 108, 115, 101] else if c.kind = 3 then it c.num else if c.kind = 4 then [34] ++ qt c.text ++ [34] else [58] ++ c.text
theorem at_cases (g : List Cell) (a : Int) : at_ g a ∈ g ∨ at_ g a = nilC := by
 unfold at_
 rw [List.getD_eq_getElem?_getD]
 cases h : g[a.toNat]? with
 | none => exact .inr rfl
 | some c => exact .inl (List.mem_of_getElem? h)
theorem cellD_kind {n : Nat} {c : Cell} (h : cellD n c = true) : 0 ≤ c.kind ∧ c.kind ≤ 8 := by
 unfold cellD at h
 simp only [Bool.and_eq_true, Bool.not_eq_true', Bool.or_eq_false_iff, decide_eq_false_iff_not] at h
 have := h.1.2.1.1.1
 omega
theorem cellD_text {n : Nat} {c : Cell} (h : cellD n c = true) : c.text.length ≤ 2000 := by
 have hk := cellD_kind h
 unfold cellD at h
 simp only [Bool.and_eq_true] at h
 have h2 := h.2
 split at h2
 ·have := h2
  simp only [Bool.and_eq_true, decide_eq_true_eq] at this
  rw [this.1.1]; simp
 split at h2
 ·simpa using h2
 split at h2
 ·have : c.text.length ≤ 40 := by simpa using h2
  omega
 split at h2
 ·simp only [Bool.and_eq_true, decide_eq_true_eq] at h2
  rw [h2.1]; simp
 split at h2
 ·simp only [Bool.and_eq_true] at h2
  have := h2.1.1
  unfold constD wordD at this
  simp only [Bool.and_eq_true, decide_eq_true_eq] at this
  omega
 ·have : c.text = [] := by simpa using h2
  rw [this]; simp
theorem cellD_names {n : Nat} {c : Cell} (h : cellD n c = true) : ∀ s ∈ c.names, s.length ≤ 40 := by
 intro s hs
 have hk : c.kind = 8 := by
  unfold cellD at h
  simp only [Bool.and_eq_true, Bool.not_eq_true', Bool.or_eq_false_iff, Bool.and_eq_false_iff, decide_eq_false_iff_not] at h
  rcases h.1.2.1.2 with h1 | h1
  ·simpa using h1
  ·have : c.names = [] := by simpa using h1
   rw [this] at hs; cases hs
 have h1 := cell_eq n c
 rw [h] at h1
 unfold plainS at h1
 simp only [Bool.and_eq_true] at h1
 have h2 := h1.1.2
 rw [if_neg (by omega), if_neg (by omega)] at h2
 simp only [Bool.and_eq_true] at h2
 have := List.all_eq_true.1 h2.2 s hs
 unfold Go.Scan.iiB at this
 simp only [Bool.and_eq_true, decide_eq_true_eq] at this
 exact this.2
theorem cellD_lens {n : Nat} {c : Cell} (h : cellD n c = true) (h8 : c.kind = 8) : c.names.length = c.items.length := by
 have h1 := cell_eq n c
 rw [h] at h1
 unfold plainS at h1
 simp only [Bool.and_eq_true] at h1
 have h2 := h1.1.2
 rw [if_neg (by omega), if_neg (by omega)] at h2
 simp only [Bool.and_eq_true, decide_eq_true_eq] at h2
 exact h2.1.1
theorem valid_short {g : List Cell} {qt : List UInt8 → List UInt8} {it : Int → List UInt8} (hv : ValidP g) (hs : ∀ c ∈ g, c.items.length ≤ 2000) (hq : ∀ s, (qt s).length ≤ 2 * s.length) (hi : ∀ x, (it x).length ≤ 30) : Short (leafS qt it) g := by
 have hall : ∀ a, cellD g.length (at_ g a) = true ∨ at_ g a = nilC := fun a => (at_cases g a).imp (hv.2.1 _) id
 have ht : ∀ a, (at_ g a).text.length ≤ 2000 := fun a => by
  rcases hall a with h | h
  ·exact cellD_text h
  ·rw [h]; exact Nat.zero_le _
 refine ⟨fun a _ => ?_, fun a _ => ht a, fun a s hsm => ?_, fun a => ?_⟩
 ·have h1 := ht a
  have h2 := hq (at_ g a).text
  have h3 := hi (at_ g a).num
  unfold leafS
  repeat' split
  all_goals first | omega | (simp only [List.length_append, List.length_cons, List.length_nil]; omega)
 ·rcases hall a with h | h
  ·exact cellD_names h s hsm
  ·rw [h] at hsm; cases hsm
 ·rcases at_cases g a with h | h
  ·exact hs _ h
  ·rw [h]; exact Nat.zero_le _
end Go.Core
namespace Go.Proofs.YtgogonnnojcioaaGreatDoor
open Go.AX Go.RowKit Go.Core Go.Scan
set_option maxRecDepth 20000
end Go.Proofs.YtgogonnnojcioaaGreatDoor
namespace Go.Core
def htF (g : List Cell) : Nat → Int → Nat
 | 0, _ => 0
 | n + 1, i => (outs g i).foldl (fun m k => max m (htF g n k)) 0 + 1
def dep (g : List Cell) (i : Int) : Nat := htF g g.length i
end Go.Core
namespace Go.Core
theorem catT_congr {F G : Int → List UInt8} {pre : Nat → List UInt8} : ∀ (l : List Int) (i : Nat), (∀ k ∈ l, F k = G k) → catT F pre i l = catT G pre i l
 | [], _, _ => rfl
 | k :: l, j, h => by
  unfold catT
  rw [h k (by simp), catT_congr l (j + 1) fun x hx => h x (by simp [hx])]
theorem full_stab {lf : Cell → List UInt8} {g : List Cell} (hg : InG g) : ∀ (n m : Nat) (way : List Int) (a : Int), InI g a → freeN g way < n → freeN g way < m → fullT lf g n way a = fullT lf g m way a
 | 0, _, _, _, _, h, _ => by omega
 | _ + 1, 0, _, _, _, _, h => by omega
 | n + 1, m + 1, way, a, ha, h1, h2 => by
  unfold fullT
  split
  ·rfl
  split
  ·rfl
  ·rename_i hm
   have hlt := free_lt ha hm (t := way ++ [a]) (fun x hx => by simp [hx]) (by simp)
   rw [catT_congr (F := fullT lf g n (way ++ [a])) (G := fullT lf g m (way ++ [a])) (at_ g a).items _ fun k hk => full_stab hg n m (way ++ [a]) k (outs_in hg ha hk) (by omega) (by omega)]
def fullL (lf : Cell → List UInt8) (g : List Cell) (u : Int) : List UInt8 := fullT lf g (g.length + 2) [] u
theorem place_map {φ : Int → Int} : ∀ {l : List Int} {x : Int}, (∀ y ∈ l, φ y = φ x → y = x) → place (l.map φ) (φ x) = place l x := by
 intro l
 unfold place
 induction l with
 | nil => exact fun _ => rfl
 | cons y l ih =>
  intro x h
  rw [List.map_cons, List.idxOf_cons, List.idxOf_cons]
  by_cases e : y = x
  ·subst e; simp
  ·have h2 : φ y ≠ φ x := fun k => e (h y (by simp) k)
   have e1 : (φ y == φ x) = false := by simpa using h2
   have e2 : (y == x) = false := by simpa using e
   have := ih (x := x) fun z hz => h z (by simp [hz])
   rw [e1, e2]
   simp only [cond_false]
   omega
def joinS (g h : List Cell) : List Cell := g ++ h.map (reNum fun i => i + (g.length : Int))
theorem at_app1 {g h : List Cell} {i : Int} (hi : InI g i) : at_ (g ++ h) i = at_ g i := by
 unfold at_
 rw [List.getD_eq_getElem?_getD, List.getD_eq_getElem?_getD, List.getElem?_append_left (by have := hi.1; have := hi.2; omega)]
theorem at_app2 {g h : List Cell} {i : Int} (hi : InI h i) : at_ (g ++ h) (i + (g.length : Int)) = at_ h i := by
 unfold at_
 have e : (i + (g.length : Int)).toNat = g.length + i.toNat := by have := hi.1; omega
 rw [e, List.getD_eq_getElem?_getD, List.getD_eq_getElem?_getD, List.getElem?_append_right (by omega), Nat.add_sub_cancel_left]
theorem at_mapR {h : List Cell} {φ : Int → Int} {i : Int} (hi : InI h i) : at_ (h.map (reNum φ)) i = reNum φ (at_ h i) := by
 unfold at_
 have e : i.toNat < h.length := by have := hi.1; have := hi.2; omega
 rw [List.getD_eq_getElem?_getD, List.getD_eq_getElem?_getD, List.getElem?_map, List.getElem?_eq_getElem e]
 rfl
theorem join_len (g h : List Cell) : (joinS g h).length = g.length + h.length := by unfold joinS; simp
theorem join_emb1 {g h : List Cell} (hg : InG g) : Emb g (joinS g h) id (InI g) :=
 ⟨fun i hi => by
  unfold joinS
  rw [id, at_app1 hi]
  unfold reNum
  simp, fun i hi k hk => outs_in hg hi hk, fun _ _ _ _ h => h⟩
theorem join_emb2 {g h : List Cell} (hh : InG h) : Emb h (joinS g h) (fun i => i + (g.length : Int)) (InI h) :=
 ⟨fun i hi => by
  unfold joinS
  have hi2 : InI (h.map (reNum fun i => i + (g.length : Int))) i := ⟨hi.1, by rw [List.length_map]; exact hi.2⟩
  rw [at_app2 hi2, at_mapR hi], fun i hi k hk => outs_in hh hi hk, fun _ _ _ _ h => by omega⟩
end Go.Core
namespace Go.Proofs.YtgogonnnojcioaaGreatDoor
open Go.AX Go.RowKit Go.Core
set_option maxRecDepth 20000
end Go.Proofs.YtgogonnnojcioaaGreatDoor
namespace Go.AX
def pairV (p : Int × Int) : Value := .agg #[.int .i64 p.1, .int .i64 p.2]
structure PairT (P : Program) (kt it : TypeId) : Prop where
 k : P.underlying kt = some (.array 2 it)
 i : P.underlying it = some (.int .i64)
 s : ∃ inf, P.info? it = some inf ∧ inf.size = 1
section
variable {P : Program} {kt it : TypeId}
theorem PairT.part (h : PairT P kt it) (w : World) {xs : Array Value} {off : Nat} {v : Value} (hx : xs[off]? = some v) : (Go.part it xs off).run P w = .ok v w := by
 simp [Go.part, isAgg, run_underlying h.i, hx]
theorem PairT.int (h : PairT P kt it) (w : World) (n : Nat) (x y : Int) : (Op.equalIn (n + 1) it (.int .i64 x) (.int .i64 y)).run P w = .ok (x == y) w := by
 unfold Op.equalIn
 simp [run_underlying h.i]
theorem PairT.equal (h : PairT P kt it) (w : World) (p q : Int × Int) : (Op.equal kt (pairV p) (pairV q)).run P w = .ok (decide (p = q)) w := by
 obtain ⟨inf, hi, hs⟩ := h.s
 obtain ⟨a, b⟩ := p
 obtain ⟨c, d⟩ := q
 have p1 : ∀ (x y : Int) (w : World), (Go.part it #[.int .i64 x, .int .i64 y] 0).run P w = .ok (.int .i64 x) w := fun x y w => h.part w rfl
 have p2 : ∀ (x y : Int) (w : World), (Go.part it #[.int .i64 x, .int .i64 y] 1).run P w = .ok (.int .i64 y) w := fun x y w => h.part w rfl
 have he := fun x y => h.int w 9998 x y
 have hso : (sizeOf it).run P w = .ok 1 w := by rw [← hs]; simp [sizeOf, typeInfo, hi, Result.andThen]
 show (Op.equalIn (9999 + 1) kt (.agg #[.int .i64 a, .int .i64 b]) (.agg #[.int .i64 c, .int .i64 d])).run P w = _
 unfold Op.equalIn
 simp only [Sem.run_bind, run_underlying h.k, Result.andThen_ok]
 simp only [Std.Legacy.Range.forIn_eq_forIn_range', Std.Legacy.Range.size, Nat.sub_zero, Nat.add_one_sub_one, Nat.div_one]
 rw [show List.range' 0 2 = [0, 1] from rfl]
 simp only [List.forIn_cons, List.forIn_nil, Sem.run_bind, hso, Result.andThen_ok, Nat.mul_one, p1, he]
 by_cases h1 : a = c
 ·subst h1
  by_cases h2 : b = d
  ·subst h2
   simp [p2, he, Result.andThen]
  ·simp [p2, he, Result.andThen, h2]
 ·simp [Result.andThen, h1]
theorem PairT.check (h : PairT P kt it) (w : World) (e : Bool) (p : Int × Int) : (Instr.checkKey e 10000 kt (pairV p)).run P w = .ok () w := by
 obtain ⟨inf, hi, hs⟩ := h.s
 obtain ⟨a, b⟩ := p
 have p1 : ∀ (x y : Int) (w : World), (Go.part it #[.int .i64 x, .int .i64 y] 0).run P w = .ok (.int .i64 x) w := fun x y w => h.part w rfl
 have p2 : ∀ (x y : Int) (w : World), (Go.part it #[.int .i64 x, .int .i64 y] 1).run P w = .ok (.int .i64 y) w := fun x y w => h.part w rfl
 have hc : ∀ x, (Instr.checkKey e 9999 it (.int .i64 x)).run P w = .ok () w := fun x => MapKept.run_checkKey (k := .int .i64 x) h.i (by simp [MapKept.IsKey]) e 9998
 have hso : (sizeOf it).run P w = .ok 1 w := by rw [← hs]; simp [sizeOf, typeInfo, hi, Result.andThen]
 show (Instr.checkKey e (9999 + 1) kt (.agg #[.int .i64 a, .int .i64 b])).run P w = _
 unfold Instr.checkKey
 simp only [Sem.run_bind, run_underlying h.k, Result.andThen_ok]
 simp only [Std.Legacy.Range.forIn_eq_forIn_range', Std.Legacy.Range.size, Nat.sub_zero, Nat.add_one_sub_one, Nat.div_one]
 rw [show List.range' 0 2 = [0, 1] from rfl]
 simp only [List.forIn_cons, List.forIn_nil, Sem.run_bind, hso, Result.andThen_ok, Nat.mul_one, p1, p2, hc, Sem.run_pure]
def PairsAre (es : List MapEntry) (R : List ((Int × Int) × Value)) : Prop := es.map (fun e => (e.key, e.val)) = R.map fun r => (pairV r.1, r.2)
theorem PairsAre.put {es : Array MapEntry} {R : List ((Int × Int) × Value)} (h : PairsAre es.toList R) (p : Int × Int) (v : Value) (born : Nat) : PairsAre (es.push { key := pairV p, val := v, born := born }).toList (R ++ [(p, v)]) := by
 unfold PairsAre at *
 rw [Array.toList_push, List.map_append, List.map_append, h]
 rfl
end
theorem ReadW.pair {P : Program} {o : Oper} {s : List AV} {H : List Ent} {K : AV → Prop} {T it : TypeId} {x y : Operand} {a b : Int} {inf : TypeInfo} (ho : o.op = .build T #[(0, x), (1, y)]) (hT : PairT P T it) (hi : P.info? T = some inf) (hz : inf.zero = some (.agg #[.int .i64 0, .int .i64 0]))
  (hx : opv s x = .c (.v (.int .i64 a))) (hy : opv s y = .c (.v (.int .i64 b))) (h : K (.c (.v (pairV (a, b))))) : ReadW P o s H K :=
 ReadW.val (pairV (a, b)) (fun cs b e => by rw [ho] at e; cases e) (by rw [ho]; show allPlain s [x, y] = true; simp [allPlain, hx, hy]) (fun w hw => by
  obtain ⟨i1, hi1, hs1⟩ := hT.s
  have hso : (sizeOf it).run P w = .ok 1 w := by rw [← hs1]; simp [sizeOf, typeInfo, hi1, Result.andThen]
  have hb : (Instr.build T #[(0, plainEv s x), (1, plainEv s y)]).run P w = .ok (pairV (a, b)) w := by
   rw [plainEv_v hx, plainEv_v hy]
   unfold Instr.build
   simp only [Sem.run_bind, run_zeroValue hi hz, run_underlying hT.k, Result.andThen_ok, hso]
   rfl
  unfold execOp
  simp [ho, hb, Result.andThen]) h
end Go.AX
namespace Go.Core
end Go.Core
namespace Go.Proofs.YtgogonnnojcioaaGreatDoor
open Go.AX Go.RowKit Go.Core
set_option maxRecDepth 20000
end Go.Proofs.YtgogonnnojcioaaGreatDoor
namespace Go.AX
theorem SpecH.turn {P : Program} {f : FuncId} {args : List AV} {H : List Ent} {K : Out → List Ent → Prop} (G : List Ent) (t : SealR (Facts (restK H G)) H G) (h : SpecH P f args G K) : SpecH P f args H K := by
 refine ⟨h.ok, fun ρ S w vs hs hr => ?_⟩
 obtain ⟨S', hs', hev⟩ := (turnS t).2 ρ S w hs
 exact (h.run ρ S' w vs hs' hr).mono fun e w' ⟨ρ2, S2, H2, out, a1, a2, a3, a4⟩ => ⟨ρ2, S2, H2, out, a1, hev.trans a2, a3, a4⟩
end Go.AX
namespace Go.Core
theorem valid_in {g : List Cell} (h : ValidP g) : InG g := by
 intro c hc i hi
 have h1 := h.2.1 c hc
 unfold cellD rangeB at h1
 simp only [Bool.and_eq_true] at h1
 have := List.all_eq_true.1 h1.1.1 i hi
 simp only [Bool.and_eq_true, decide_eq_true_eq] at this
 exact this
end Go.Core
namespace Go.Proofs.YtgogonnnojcioaaGreatDoor
open Go.AX Go.RowKit Go.Core
set_option maxRecDepth 20000
end Go.Proofs.YtgogonnnojcioaaGreatDoor
namespace Go.Core
theorem cellD_re {n m : Nat} {c : Cell} {φ : Int → Int} (h : cellD n c = true) (hφ : ∀ x ∈ c.items, 0 ≤ φ x ∧ φ x < (m : Int)) : cellD m (reNum φ c) = true := by
 have hr : rangeB m (reNum φ c) = true := by
  unfold rangeB reNum
  rw [List.all_eq_true]
  intro y hy
  obtain ⟨x, hx, rfl⟩ := List.mem_map.1 hy
  have := hφ x hx
  simp [this.1, this.2]
 unfold cellD at h ⊢
 rw [hr, Bool.true_and]
 rw [Bool.and_assoc, Bool.and_eq_true] at h
 have h2 := h.2
 unfold reNum
 simp only [List.map_eq_nil_iff, List.length_map] at *
 exact h2
theorem keyB_re {g t : List Cell} {φ : Int → Int} {R : Int → Prop} (h : Emb g t φ R) {x y : Int} (hx : R x) (hy : R y) : keyB t (φ x) (φ y) = keyB g x y := by
 unfold keyB
 rw [h.cell x hx, h.cell y hy]
 congr 1
 exact decide_eq_decide.2 ⟨h.inj x y hx hy, fun e => by rw [e]⟩
theorem twice_re {g t : List Cell} {φ : Int → Int} {R : Int → Prop} (h : Emb g t φ R) {l : List Int} (hl : ∀ x ∈ l, R x) (ht : Twice t (l.map φ)) : Twice g l := by
 obtain ⟨i, k, h1, h2, h3, h4, h5⟩ := ht
 rw [List.length_map] at h2
 obtain ⟨x, hx⟩ : ∃ x, l[i]? = some x := ⟨_, List.getElem?_eq_getElem h2⟩
 obtain ⟨y, hy⟩ : ∃ y, l[k]? = some y := ⟨_, List.getElem?_eq_getElem (by omega)⟩
 refine ⟨i, k, h1, h2, h3, h4, ?_⟩
 rw [List.getD_eq_getElem?_getD, List.getD_eq_getElem?_getD, List.getElem?_map, List.getElem?_map, hx, hy] at h5
 rw [List.getD_eq_getElem?_getD, List.getD_eq_getElem?_getD, hx, hy]
 rw [← h5]
 exact (keyB_re h (hl x (List.mem_of_getElem? hx)) (hl y (List.mem_of_getElem? hy))).symm
theorem valid_cell {g t : List Cell} {φ : Int → Int} {R : Int → Prop} (hv : ValidP g) (h : Emb g t φ R) (hR : ∀ i, R i → InI g i) (hin : ∀ i, R i → 0 ≤ φ i ∧ φ i < (t.length : Int)) {i : Int} (hi : R i) :
  cellD t.length (reNum φ (at_ g i)) = true ∧ ((reNum φ (at_ g i)).kind = 7 → ¬ Twice t (reNum φ (at_ g i)).items) := by
 have hm := at_mem (hR i hi)
 refine ⟨cellD_re (hv.2.1 _ hm) fun x hx => hin x (h.outs i hi x hx), fun hk ht => ?_⟩
 exact hv.2.2 _ hm hk (twice_re h (fun x hx => h.outs i hi x hx) ht)
theorem mem_at {g : List Cell} {c : Cell} (h : c ∈ g) : ∃ i, InI g i ∧ c = at_ g i := by
 obtain ⟨j, hj⟩ := List.getElem?_of_mem h
 have hl := (List.getElem?_eq_some_iff.1 hj).1
 refine ⟨(j : Int), ⟨by omega, by omega⟩, ?_⟩
 unfold at_
 rw [Int.toNat_natCast, List.getD_eq_getElem?_getD, hj]
 rfl
theorem valid_join {g h : List Cell} (hg : ValidP g) (hh : ValidP h) (hn : g.length + h.length ≤ 500) : ValidP (joinS g h) := by
 have hlen := join_len g h
 have ig := valid_in hg
 have ih := valid_in hh
 have key : ∀ c ∈ joinS g h, cellD (joinS g h).length c = true ∧ (c.kind = 7 → ¬ Twice (joinS g h) c.items) := fun c hcm => by
  rcases List.mem_append.1 hcm with hm | hm
  ·obtain ⟨i, hi, rfl⟩ := mem_at hm
   have := valid_cell hg (join_emb1 (h := h) ig) (fun _ h => h) (fun x hx => by have := hx.1; have := hx.2; simp only [id]; omega) hi
   have e : reNum id (at_ g i) = at_ g i := by unfold reNum; simp
   rw [e] at this
   exact this
  ·obtain ⟨d, hd, rfl⟩ := List.mem_map.1 hm
   obtain ⟨i, hi, rfl⟩ := mem_at hd
   exact valid_cell hh (join_emb2 (g := g) ih) (fun _ h => h) (fun x hx => by have := hx.1; have := hx.2; omega) hi
 exact ⟨by omega, fun c h => (key c h).1, fun c h => (key c h).2⟩
end Go.Core
namespace Go.Marshal
open Go.Core
abbrev B := List UInt8
def numR : Nat → Nat → B
 | 0, _ => []
 | f + 1, m => if m = 0 then [] else UInt8.ofNat (m % 128 + 128) :: numR f (m / 128)
def num (n : Nat) : B := (UInt8.ofNat (n % 128) :: numR 10 (n / 128)).reverse
def sgn (n : Int) : Nat := if n < 0 then (-2 * n - 1).toNat else (2 * n).toNat
def unsgn (n : Nat) : Int := if n % 2 = 1 then -(((n + 1) / 2 : Nat) : Int) else ((n / 2 : Nat) : Int)
def maxN : Nat := 1000000000000000
def rdF (most : Nat) : Nat → Nat → B → Except Int (Nat × B)
 | _, _, [] => .error 14
 | i, n, x :: s =>
  if i = 0 ∧ x = 128 ∨ 9 ≤ i then .error 4
  else if x.toNat < 128 then (if n * 128 + x.toNat % 128 ≤ most then .ok (n * 128 + x.toNat % 128, s) else .error 4)
  else rdF most (i + 1) (n * 128 + x.toNat % 128) s
def rd (most : Nat) (s : B) : Except Int (Nat × B) := rdF most 0 0 s
def rdT (most : Nat) (s : B) : Except Int (B × B) := match rd maxN s with
 | .error e => .error e
 | .ok (n, r) => if most < n then .error 4 else if r.length < n then .error 14 else .ok (r.take n, r.drop n)
def rdSym (x : UInt8) (ss : List B) (s : B) : Except Int (B × List B × B) :=
 if x = 59 then match rd maxN s with
  | .error e => .error e
  | .ok (k, r) => match ss[k]? with
   | some t => .ok (t, ss, r)
   | none => .error 4
 else if x = 58 then match rdT 40 s with
  | .error e => .error e
  | .ok (t, r) => if t ∈ ss then .error 4 else .ok (t, ss ++ [t], r)
 else .error 4
structure St where
 s : B
 g : List Cell
 cells : List Int
 ss : List B
def bnd {α β : Type} : Except Int (α × St) → (α → St → Except Int (β × St)) → Except Int (β × St)
 | .error e, _ => .error e
 | .ok (a, st), k => k a st
def nextS (st : St) : Except Int (UInt8 × St) := match st.s with
 | [] => .error 14
 | x :: s => .ok (x, { st with s := s })
def numS (most : Nat) (st : St) : Except Int (Nat × St) := match rd most st.s with
 | .error e => .error e
 | .ok (n, r) => .ok (n, { st with s := r })
def textS (most : Nat) (st : St) : Except Int (B × St) := match rdT most st.s with
 | .error e => .error e
 | .ok (t, r) => .ok (t, { st with s := r })
def symS (x : UInt8) (st : St) : Except Int (B × St) := match rdSym x st.ss st.s with
 | .error e => .error e
 | .ok (t, ss, r) => .ok (t, { st with s := r, ss := ss })
def itemsA (f : St → Except Int (Int × St)) : Nat → List Int → St → Except Int (List Int × St)
 | 0, l, st => .ok (l, st)
 | n + 1, l, st => bnd (f st) fun i st => itemsA f n (l ++ [i]) st
def attrsA (f : St → Except Int (Int × St)) : Nat → List B → List Int → St → Except Int ((List B × List Int) × St)
 | 0, ns, l, st => .ok ((ns, l), st)
 | n + 1, ns, l, st => bnd (nextS st) fun x st => bnd (symS x st) fun t st =>
  if Go.Scan.iiB t = true ∧ t ∉ ns then bnd (f st) fun i st => attrsA f n (ns ++ [t]) (l ++ [i]) st else .error 4
def innerF (f : St → Except Int (Int × St)) (x : UInt8) (st : St) : Except Int (Cell × St) :=
 if x = 48 then .ok (⟨0, 0, [], [], []⟩, st)
 else if x = 84 then .ok (⟨1, 0, [], [], []⟩, st)
 else if x = 70 then .ok (⟨2, 0, [], [], []⟩, st)
 else if x = 105 then bnd (numS (2 * maxN) st) fun n st => .ok (⟨3, unsgn n, [], [], []⟩, st)
 else if x = 34 then bnd (textS maxN st) fun t st => .ok (⟨4, 0, t, [], []⟩, st)
 else if x = 58 ∨ x = 59 then bnd (symS x st) fun t st => .ok (⟨5, 0, t, [], []⟩, st)
 else if x = 91 then bnd (numS maxN st) fun n st => bnd (itemsA f n [] st) fun l st => .ok (⟨6, 0, [], [], l⟩, st)
 else if x = 123 then bnd (numS maxN st) fun n st => bnd (itemsA f (2 * n) [] st) fun l st => .ok (⟨7, 0, [], [], l⟩, st)
 else bnd (nextS st) fun y st => bnd (symS y st) fun t st =>
  if Go.Scan.icB t = true then bnd (numS maxN st) fun n st => bnd (attrsA f n [] [] st) fun p st => .ok (⟨8, 0, t, p.1, p.2⟩, st) else .error 4
def begins : B := [48, 84, 70, 105, 34, 58, 59, 91, 123, 111]
def named : B := [34, 91, 123, 111]
def openS (x : UInt8) (st : St) : St := ⟨st.s, st.g ++ [nilC], if x ∈ named then st.cells ++ [(st.g.length : Int)] else st.cells, st.ss⟩
def setS (i : Nat) (c : Cell) (st : St) : St := { st with g := st.g.set i c }
def formF : Nat → St → Except Int (Int × St)
 | 0, _ => .error 99
 | n + 1, st => bnd (nextS st) fun x st =>
  if x = 64 then bnd (numS maxN st) fun k st => match st.cells[k]? with
   | some c => .ok (c, st)
   | none => .error 4
  else if 500 ≤ st.g.length ∨ x ∉ begins then .error 4
  else bnd (innerF (formF n) x (openS x st)) fun c st' => .ok ((st.g.length : Int), setS st.g.length c st')
def headF : B → B → Except Int B
 | [], s => .ok s
 | _ :: _, [] => .error 14
 | h :: hs, x :: s => if x = h then headF hs s else .error 4
def headB : B := [67, 77, 1]
open Classical in
noncomputable def loadS (s : B) : Except Int (List Cell × List B) :=
 if 20000 < s.length then .error 2
 else match headF headB s with
  | .error e => .error e
  | .ok r => match formF (r.length + 1) ⟨r, [], [], []⟩ with
   | .error e => .error e
   | .ok (_, st) => if st.s ≠ [] then .error 4 else if ValidP st.g then .ok (st.g, st.ss) else .error 1
structure Wr where
 out : B
 cells : List Int
 ss : List B
def putW (w : Wr) (b : B) : Wr := { w with out := w.out ++ b }
def symW (w : Wr) (t : B) : Wr := if t ∈ w.ss then putW w (59 :: num (w.ss.idxOf t)) else ⟨w.out ++ (58 :: (num t.length ++ t)), w.cells, w.ss ++ [t]⟩
def writeF (g : List Cell) : Nat → Wr → Int → Wr
 | 0, w, _ => w
 | n + 1, w, a =>
  let c := at_ g a
  if c.kind = 0 then putW w [48]
  else if c.kind = 1 then putW w [84]
  else if c.kind = 2 then putW w [70]
  else if c.kind = 3 then putW w (105 :: num (sgn c.num))
  else if c.kind = 5 then symW w c.text
  else if a ∈ w.cells then putW w (64 :: num (w.cells.idxOf a))
  else
   let w := { w with cells := w.cells ++ [a] }
   if c.kind = 4 then putW w (34 :: (num c.text.length ++ c.text))
   else if c.kind = 6 then c.items.foldl (writeF g n) (putW w (91 :: num c.items.length))
   else if c.kind = 7 then c.items.foldl (writeF g n) (putW w (123 :: num (c.items.length / 2)))
   else (c.names.zip c.items).foldl (fun w p => writeF g n (symW w p.1) p.2) (putW (symW (putW w [111]) c.text) (num c.names.length))
def dumpS (g : List Cell) (a : Int) : B := (writeF g (g.length + 1) ⟨headB, [], []⟩ a).out
end Go.Marshal
namespace Go.Proofs.YtgogonnnojcioaaGreatDoor
open Go.AX Go.RowKit
set_option maxRecDepth 20000
end Go.Proofs.YtgogonnnojcioaaGreatDoor
namespace Go.Marshal
def sw (l : List UInt8) (i : Nat) : B := (List.range l.length).map fun k => if k < i ∨ l.length ≤ k + i then l.getD (l.length - 1 - k) 0 else l.getD k 0
theorem sw_len (l : List UInt8) (i : Nat) : (sw l i).length = l.length := by simp [sw]
theorem sw_get (l : List UInt8) (i k : Nat) (h : k < l.length) : (sw l i)[k]? = some (if k < i ∨ l.length ≤ k + i then l.getD (l.length - 1 - k) 0 else l.getD k 0) := by
 simp [sw, h]
theorem sw_zero (l : List UInt8) : sw l 0 = l := by
 apply List.ext_getElem?
 intro k
 rcases Nat.lt_or_ge k l.length with h | h
 ·rw [sw_get l 0 k h, if_neg (by omega)]
  simp [List.getD, h]
 ·rw [List.getElem?_eq_none (by rw [sw_len]; exact h), List.getElem?_eq_none h]
theorem sw_end (l : List UInt8) (i : Nat) (hi : l.length ≤ 2 * i + 1) : sw l i = l.reverse := by
 apply List.ext_getElem?
 intro k
 rcases Nat.lt_or_ge k l.length with h | h
 ·rw [sw_get l i k h, List.getElem?_reverse h]
  have hk : l.length - 1 - k < l.length := by omega
  by_cases h2 : k < i ∨ l.length ≤ k + i
  ·rw [if_pos h2]
   simp [List.getD, List.getElem?_eq_getElem hk]
  ·rw [if_neg h2]
   have : k = l.length - 1 - k := by omega
   rw [← this]
   simp [List.getD, h]
 ·rw [List.getElem?_eq_none (by rw [sw_len]; exact h), List.getElem?_eq_none (by simpa using h)]
theorem sw_step (l : List UInt8) (i : Nat) (hi : i < l.length - 1 - i) : ((sw l i).set i (l.getD (l.length - 1 - i) 0)).set (l.length - 1 - i) (l.getD i 0) = sw l (i + 1) := by
 apply List.ext_getElem?
 intro k
 rcases Nat.lt_or_ge k l.length with h | h
 ·rw [sw_get l (i + 1) k h, List.getElem?_set, List.getElem?_set]
  simp only [List.length_set, sw_len]
  by_cases h1 : l.length - 1 - i = k
  ·rw [if_pos h1, if_pos (by omega), if_pos (by omega)]
   congr 2
   omega
  ·rw [if_neg h1]
   by_cases h2 : i = k
   ·rw [if_pos h2, if_pos (by omega), if_pos (by omega), h2]
   ·rw [if_neg h2, sw_get l i k h]
    by_cases h3 : k < i ∨ l.length ≤ k + i
    ·rw [if_pos h3, if_pos (by omega)]
    ·rw [if_neg h3, if_neg (by omega)]
 ·rw [List.getElem?_eq_none (by simp [sw_len]; exact h), List.getElem?_eq_none (by rw [sw_len]; exact h)]
end Go.Marshal
namespace Go.Proofs.YtgogonnnojcioaaGreatDoor
open Go.AX Go.RowKit Go.Marshal
set_option maxRecDepth 20000
def own (l : List UInt8) (b cap : Nat) : Ent := .app 5 1 (u8s l) (some ⟨b, 0, none⟩) l.length cap
theorem ptr_lit {a : AV} {b n q : Nat} (h : a = .c (.v (.pointer (some (elemAddr (some ⟨b, 0, none⟩) n))))) (hq : n = q) : a = .c (.v (.pointer (some ⟨b, q, none⟩))) := by
 rw [h, hq]
 unfold elemAddr
 rw [show (some (⟨b, 0, none⟩ : Addr)).getD default = ⟨b, 0, none⟩ from rfl, add_lit0]
theorem u8s_at {l : List UInt8} {k : Nat} {c : UInt8} (h : l[k]? = some c) : (u8s l)[k]? = some (.int .u8 (c.toNat : Int)) := by simp [u8s, h]
theorem u8s_put {l : List UInt8} {k : Nat} (c : UInt8) (h : k < l.length) : (u8s l).take k ++ [.int .u8 (c.toNat : Int)] ++ (u8s l).drop (k + 1) = u8s (l.set k c) := by
 have := put_set (xs := u8s l) (q := k) (.int .u8 (c.toNat : Int)) (by simpa [u8s] using h)
 rw [show [Value.int .u8 (c.toNat : Int)].length = 1 from rfl] at this
 rw [this]
 simp [u8s]
theorem Reverse_c (l : List UInt8) (b cap : Nat) (hl : l.length ≤ 1000000) : SpecH Tryz.prog 173 [.c (.v (.slice (some ⟨b, 0, none⟩) l.length cap))] [own l b cap] (RetG (ι := Unit) (fun _ => True) (fun _ => .tuple #[]) fun _ => [own l.reverse b cap]) := by
 refine ownC hm Tryz.func173 (by kernel_rfl) rfl rfl (fun _ _ => okHB_eq rfl) (fun _ _ => Nat.le_refl _) ?_
 refine wX ?_
 refine LoopN.intro Nat (fun i => 2 * i ≤ l.length + 1)
  (fun i => mkS Tryz.f173.ntmps 0 [(0, .c (.v (.slice (some ⟨b, 0, none⟩) l.length cap))), (2, .c (.v (.int .i64 (i : Int)))), (3, .c (.v (.int .i64 ((l.length : Int) - 1 - i))))])
  (fun i => [.app 5 1 (u8s (sw l i)) (some ⟨b, 0, none⟩) l.length cap]) (fun i => l.length - i) [] rfl
  (fun _ => rfl) (fun _ => rfl) (fun _ _ => okHB_eq rfl) ⟨0, by omega, ?_, ?_⟩ ?_
 ·exact wKK
 ·rw [sw_zero]
  exact wkH_refl _
 intro i hi
 refine wX ?_
 refine brd_dec (fun h => ?_) (fun h => ?_)
 ·have hlen := sw_len l i
  have g1 := sw_get l i i (by omega)
  have g2 := sw_get l i (l.length - 1 - i) (by omega)
  rw [if_neg (by omega)] at g1 g2
  have hst := sw_step l i (by omega)
  refine wX ?_
  refine DrawN.plan [0, 1, 2, 3, 4, 5, 8, 9] [(6, 1), (7, 1), (10, 1), (11, 1), (12, 1)] [(13, 0), (14, 0), (15, 0)] (by decide +kernel) ?_
  refine wX ?_
  refine Nd.mk ⟨rfl, by omega, by omega⟩ ?_
  refine wX ?_
  refine LdN.one (.int .u8 ((l.getD (l.length - 1 - i) 0).toNat : Int)) rfl (fun w hw => hw.1) (by
   show (u8s (sw l i))[((l.length : Int) - 1 - i).toNat * 1]? = _
   rw [Nat.mul_one, show ((l.length : Int) - 1 - i).toNat = l.length - 1 - i by omega]
   exact u8s_at g2) ?_
  refine wX ?_
  refine Nd.mk ⟨rfl, by omega, by omega⟩ ?_
  refine wX ?_
  refine LdN.one (.int .u8 ((l.getD i 0).toNat : Int)) rfl (fun w hw => hw.1) (by
   show (u8s (sw l i))[(i : Int).toNat * 1]? = _
   rw [Nat.mul_one, Int.toNat_natCast]
   exact u8s_at g1) ?_
  refine wX ?_
  refine Nd.mk ⟨rfl, by omega, by omega⟩ ?_
  refine wX ?_
  refine EffW.appTo (i := 0) (q := i) (ys := [_]) (u8s ((sw l i).set i (l.getD (l.length - 1 - i) 0))) 1 rfl (ptr_lit rfl (by show (i : Int).toNat * 1 = i; omega)) rfl rfl rfl rfl rfl (by show i + 1 ≤ l.length * 1; omega) (u8s_put _ (by omega)) rfl ?_
  refine wX ?_
  refine Nd.mk ⟨rfl, by omega, by omega⟩ ?_
  refine wX ?_
  refine EffW.appTo (i := 0) (q := l.length - 1 - i) (ys := [_]) (u8s (sw l (i + 1))) 1 rfl (ptr_lit rfl (by show ((l.length : Int) - 1 - i).toNat * 1 = l.length - 1 - i; omega)) rfl rfl rfl rfl rfl (by show l.length - 1 - i + 1 ≤ l.length * 1; omega) (by rw [← hst]; exact u8s_put _ (by simp; omega)) rfl ?_
  refine wX ?_
  refine ⟨i + 1, by omega, by omega, ?_, wHH⟩
  exact wKK
 ·rw [sw_end l i (by omega)]
  refine wX ?_
  have e : own l.reverse b cap = .app 5 1 (u8s l.reverse) (some ⟨b, 0, none⟩) l.length cap := by unfold own; rw [List.length_reverse]
  rw [e]
  exact ⟨(), trivial, rfl, wkH_refl _⟩
def BytesR (l : List UInt8) (v : Value) (G : World → Prop) : Prop := ∃ ob cap, v = .slice (at0 ob) l.length cap ∧ (ob = none → l = []) ∧ ∀ w, G w → SlAt (at0 ob) l.length (u8s l) w
theorem bytesR_own (l : List UInt8) (b cap : Nat) : BytesR l (.slice (some ⟨b, 0, none⟩) l.length cap) (SlAt (some ⟨b, 0, none⟩) (l.length * 1) (u8s l)) :=
 ⟨some b, cap, rfl, fun h => (by cases h), fun w hw => (by rw [Nat.mul_one] at hw; exact hw)⟩
theorem numR_zero : ∀ f, numR f 0 = []
 | 0 => rfl
 | f + 1 => by unfold numR; rw [if_pos rfl]
theorem ofNat_int {n : Nat} (h : n < 256) : ((UInt8.ofNat n).toNat : Int) = n := by
 rw [UInt8.toNat_ofNat', Nat.mod_eq_of_lt (by simpa using h)]
theorem sevens_c (n : Nat) (hn : n < 9223372036854775808) : SpecF Tryz.prog 168 [.int .i64 (n : Int)] (fun _ => True) (BytesR (num n)) := by
 refine specF hm Tryz.func168 (by kernel_rfl) rfl rfl ?_
 have e1 : (n : Int).tdiv 128 = ((n / 128 : Nat) : Int) := (Int.ofNat_tdiv n 128).symm
 have e2 : (n : Int).tmod 128 = ((n % 128 : Nat) : Int) := (Int.ofNat_tmod n 128).symm
 (conv => whnf)
 refine RwN.known [_] rfl fun b0 => ?_
 refine wX ?_
 refine LoopN.intro (List UInt8 × Nat × Nat × Nat × Nat) (fun ⟨l, m, f, _, _⟩ => l ++ numR f m = (num n).reverse ∧ m < 128 ^ f ∧ l.length + f ≤ 11 ∧ m < 9223372036854775808)
  (fun ⟨l, m, _, b, cap⟩ => mkS Tryz.f168.ntmps 0 [(0, .c (.v (.int .i64 (m : Int)))), (3, .c (.v (.slice (some ⟨b, 0, none⟩) l.length cap)))])
  (fun ⟨l, _, _, b, cap⟩ => [.fact fun _ => True, own l b cap]) (fun ⟨_, _, f, _, _⟩ => f) [] rfl
  (fun _ => rfl) (fun _ => rfl) (fun _ _ => okHB_eq rfl) ⟨([UInt8.ofNat (n % 128)], n / 128, 10, b0, 1), ⟨?_, ?_, ?_, ?_⟩, ?_, ?_⟩ ?_
 ·simp [num]
 ·have : n / 128 < 128 ^ 9 := by omega
  omega
 ·simp
 ·omega
 ·(repeat' (first | exact trivial | refine And.intro (by with_reducible rfl) ?_ | (with_reducible exact wkC_refl _) | (with_reducible exact wkCs_refl _) | refine And.intro ?_ ?_))
  all_goals first | rfl | exact av_int (by rw [e1, wrap_i64 (by omega)])
 ·exact ⟨wkE_refl _, .inl ⟨rfl, rfl, by rw [e2, wrap_u8 (by omega)]; show [_] = [Value.int .u8 ((UInt8.ofNat (n % 128)).toNat : Int)]; rw [ofNat_int (by omega)], rfl, rfl, rfl⟩, wkH_nil _⟩
 rintro ⟨l, m, f, b, cap⟩ ⟨hl, hm1, hlf, hm2⟩
 refine wX ?_
 refine brd_dec (fun h => ?_) (fun h => ?_)
 ·cases f with
  | zero => omega
  | succ f =>
   have e3 : (m : Int).tdiv 128 = ((m / 128 : Nat) : Int) := (Int.ofNat_tdiv m 128).symm
   have e4 : (m : Int).tmod 128 = ((m % 128 : Nat) : Int) := (Int.ofNat_tmod m 128).symm
   have hs : numR (f + 1) m = UInt8.ofNat (m % 128 + 128) :: numR f (m / 128) := by
    conv => lhs; unfold numR
    rw [if_neg (by omega)]
   rw [hs] at hl
   refine wX ?_
   refine Nd.mk ⟨Nat.le_refl 1, rfl, rfl⟩ ?_
   (conv => whnf)
   refine AppN.grow 1 (u8s l) [_] rfl rfl ⟨Nat.le_refl 1, ⟨by show (l.length + 1) * 1 ≤ _; omega, by omega⟩, by show 1 ≠ 0; omega⟩ fun b' cap' h1 h2 => ?_
   refine wX ?_
   refine ⟨(l ++ [UInt8.ofNat (m % 128 + 128)], m / 128, f, b', cap'), ⟨by rw [← hl]; simp, by rw [Nat.pow_succ, Nat.mul_comm] at hm1; exact Nat.div_lt_of_lt_mul hm1, by simp; omega, by omega⟩, by show f < f + 1; omega, ?_, ?_⟩
   ·(repeat' (first | exact trivial | refine And.intro (by with_reducible rfl) ?_ | (with_reducible exact wkC_refl _) | (with_reducible exact wkCs_refl _) | refine And.intro ?_ ?_))
    all_goals first | (simp; done) | exact av_int (by rw [e3, wrap_i64 (by omega)])
   ·exact ⟨wkE_refl _, .inl ⟨rfl, rfl, by rw [e4, wrap_i64 (by omega), wrap_u8 (by omega)]; simp [u8s]; omega, rfl, by simp, rfl⟩, wkH_nil _⟩
 ·have hm0 : m = 0 := by omega
  subst hm0
  rw [numR_zero, List.append_nil] at hl
  refine wX ?_
  refine callG (Reverse_c l b cap (by omega)) [1] rfl ⟨rfl, trivial⟩ rfl fun _ _ => ?_
  refine wX ?_
  have hr : num n = l.reverse := by rw [hl, List.reverse_reverse]
  rw [hr, show Value.slice (some ⟨b, 0, none⟩) l.length cap = Value.slice (some ⟨b, 0, none⟩) l.reverse.length cap by rw [List.length_reverse]]
  exact fin_p (SlAt (some ⟨b, 0, none⟩) (l.reverse.length * 1) (u8s l.reverse)) (bytesR_own _ _ _) (fun w hw => hw.2.1)
end Go.Proofs.YtgogonnnojcioaaGreatDoor
namespace Go.Marshal
open Go.Core
theorem ofNat_lt {n : Nat} (h : n < 256) : (UInt8.ofNat n).toNat = n := by
 rw [UInt8.toNat_ofNat', Nat.mod_eq_of_lt (by simpa using h)]
theorem numR_len : ∀ (f m k : Nat), m < 128 ^ k → (numR f m).length ≤ k
 | 0, _, _, _ => Nat.zero_le _
 | f + 1, m, k, h => by
  unfold numR
  split
  ·exact Nat.zero_le _
  ·rename_i hm
   cases k with
   | zero => rw [Nat.pow_zero] at h; omega
   | succ k =>
    have := numR_len f (m / 128) k (by rw [Nat.pow_succ, Nat.mul_comm] at h; exact Nat.div_lt_of_lt_mul h)
    simp only [List.length_cons]; omega
theorem rdF_digits {most : Nat} : ∀ (f m : Nat) (rest : B), m ≠ 0 → m < 128 ^ f → (numR f m).length ≤ 9 → rdF most 0 0 ((numR f m).reverse ++ rest) = rdF most (numR f m).length m rest
 | 0, m, _, h0, h1, _ => by rw [Nat.pow_zero] at h1; omega
 | f + 1, m, rest, h0, h1, h2 => by
  have e : numR (f + 1) m = UInt8.ofNat (m % 128 + 128) :: numR f (m / 128) := by
   conv => lhs; unfold numR
   rw [if_neg h0]
  rw [e] at h2 ⊢
  simp only [List.length_cons] at h2
  have ht : (UInt8.ofNat (m % 128 + 128)).toNat = m % 128 + 128 := ofNat_lt (by omega)
  rw [List.reverse_cons, List.append_assoc, List.singleton_append]
  by_cases hz : m / 128 = 0
  ·have e2 : numR f (m / 128) = [] := by
    rw [hz]
    cases f with
    | zero => rfl
    | succ f => unfold numR; rw [if_pos rfl]
   rw [e2]
   simp only [List.reverse_nil, List.nil_append, List.length_cons, List.length_nil]
   conv => lhs; unfold rdF
   rw [if_neg, if_neg (by omega)]
   ·rw [ht]
    congr 1
    omega
   ·rintro (⟨_, h⟩ | h)
    ·have := congrArg UInt8.toNat h
     rw [ht] at this
     have : m % 128 + 128 = 128 := this
     omega
    ·omega
  ·rw [rdF_digits f (m / 128) _ hz (by rw [Nat.pow_succ, Nat.mul_comm] at h1; exact Nat.div_lt_of_lt_mul h1) (by omega)]
   have h3 : 1 ≤ (numR f (m / 128)).length := by
    cases f with
    | zero => rw [Nat.pow_succ, Nat.pow_zero] at h1; omega
    | succ f => unfold numR; rw [if_neg hz]; simp
   conv => lhs; unfold rdF
   rw [if_neg (by omega), if_neg (by omega)]
   simp only [List.length_cons]
   rw [ht]
   congr 1
   omega
theorem rd_num {most n : Nat} (h : n ≤ most) (h2 : n < 9223372036854775808) (rest : B) : rd most (num n ++ rest) = .ok (n, rest) := by
 unfold rd num
 have ht : (UInt8.ofNat (n % 128)).toNat = n % 128 := ofNat_lt (by omega)
 have hl : (numR 10 (n / 128)).length ≤ 8 := numR_len _ _ _ (by omega)
 rw [List.reverse_cons, List.append_assoc, List.singleton_append]
 by_cases hz : n / 128 = 0
 ·have e2 : numR 10 (n / 128) = [] := by rw [hz]; rfl
  rw [e2]
  simp only [List.reverse_nil, List.nil_append]
  unfold rdF
  rw [if_neg, if_pos (by omega), if_pos (by omega)]
  ·congr 2
   omega
  ·rintro (⟨_, h⟩ | h)
   ·have := congrArg UInt8.toNat h
    rw [ht] at this
    have : n % 128 = 128 := this
    omega
   ·omega
 ·rw [rdF_digits 10 (n / 128) _ hz (by omega) (by omega)]
  have h3 : 1 ≤ (numR 10 (n / 128)).length := by unfold numR; rw [if_neg hz]; simp
  unfold rdF
  rw [if_neg (by omega), if_pos (by omega), if_pos (by omega)]
  congr 2
  omega
theorem num_pos (n : Nat) : 0 < (num n).length := by unfold num; simp
theorem num_len {n : Nat} (h : n < 9223372036854775808) : (num n).length ≤ 9 := by
 unfold num
 have := numR_len 10 (n / 128) 8 (by omega)
 simp; omega
theorem unsgn_sgn (n : Int) : unsgn (sgn n) = n := by
 unfold unsgn sgn
 split <;> split <;> omega
def Loc {α : Type} (p : B → Except Int (α × B)) : Prop := ∀ s a r, p s = .ok (a, r) → ∃ u, s = u ++ r ∧ (∀ t, p (u ++ t) = .ok (a, t)) ∧ ∀ v w, u = v ++ w → w ≠ [] → p v = .error 14
theorem rdF_loc (most : Nat) : ∀ (s : B) (i n a : Nat) (r : B), rdF most i n s = .ok (a, r) → ∃ u, s = u ++ r ∧ (∀ t, rdF most i n (u ++ t) = .ok (a, t)) ∧ ∀ v w, u = v ++ w → w ≠ [] → rdF most i n v = .error 14
 | [], i, n, a, r, h => by unfold rdF at h; cases h
 | x :: s, i, n, a, r, h => by
  unfold rdF at h
  split at h
  ·cases h
  rename_i h1
  split at h
  ·rename_i h2
   split at h
   ·rename_i h3
    cases h
    refine ⟨[x], rfl, fun t => ?_, fun v w e hw => ?_⟩
    ·show rdF most i n (x :: t) = _
     unfold rdF
     rw [if_neg h1, if_pos h2, if_pos h3]
    ·cases v with
     | nil => unfold rdF; rfl
     | cons y v =>
      injection e with _ e
      exact absurd (List.append_eq_nil_iff.1 e.symm).2 hw
   ·cases h
  ·rename_i h2
   obtain ⟨u, e1, e2, e3⟩ := rdF_loc most s _ _ _ _ h
   refine ⟨x :: u, by rw [e1]; rfl, fun t => ?_, fun v w e hw => ?_⟩
   ·show rdF most i n (x :: (u ++ t)) = _
    unfold rdF
    rw [if_neg h1, if_neg h2]
    exact e2 t
   ·cases v with
    | nil => unfold rdF; rfl
    | cons y v =>
     injection e with ex e
     subst ex
     unfold rdF
     rw [if_neg h1, if_neg h2]
     exact e3 v w e hw
theorem rd_loc (most : Nat) : Loc (rd most) := fun s a r h => rdF_loc most s 0 0 a r h
theorem app_cut {α : Type} {a b v w : List α} (e : a ++ b = v ++ w) : (∃ z, a = v ++ z ∧ z ≠ []) ∨ ∃ z, v = a ++ z ∧ b = z ++ w := by
 rcases List.append_eq_append_iff.1 e with ⟨z, h1, h2⟩ | ⟨z, h1, h2⟩
 ·exact .inr ⟨z, h1, h2⟩
 ·by_cases hz : z = []
  ·subst hz
   refine .inr ⟨[], by simpa using h1.symm, by simpa using h2.symm⟩
  ·exact .inl ⟨z, h1, hz⟩
theorem rdT_loc (most : Nat) : Loc (rdT most) := by
 intro s a r h
 unfold rdT at h
 split at h
 ·cases h
 rename_i n q hq
 split at h
 ·cases h
 rename_i h1
 split at h
 ·cases h
 rename_i h2
 cases h
 obtain ⟨u, e1, e2, e3⟩ := rd_loc maxN _ _ _ hq
 have hl : (q.take n).length = n := by rw [List.length_take]; omega
 refine ⟨u ++ q.take n, by rw [e1, List.append_assoc, List.take_append_drop], fun t => ?_, fun v w e hw => ?_⟩
 ·unfold rdT
  rw [List.append_assoc, e2]
  simp only
  rw [if_neg h1, if_neg (by rw [List.length_append, hl]; omega)]
  rw [List.take_append_of_le_length (by omega), List.drop_append_of_le_length (by omega), List.take_of_length_le (by omega), List.drop_of_length_le (by omega)]
  rfl
 ·rcases app_cut e with ⟨z, hz, hz2⟩ | ⟨z, hz, hz2⟩
  ·unfold rdT
   rw [e3 v z hz hz2]
  ·unfold rdT
   rw [hz, e2]
   simp only
   have : z.length < n := by
    have := congrArg List.length hz2
    rw [hl, List.length_append] at this
    have : w.length ≠ 0 := fun h => hw (List.eq_nil_of_length_eq_zero h)
    omega
   rw [if_neg h1, if_pos this]
theorem rdSym_loc (x : UInt8) (ss : List B) : ∀ (s : B) (t : B) (ss' : List B) (r : B), rdSym x ss s = .ok (t, ss', r) → ∃ u, s = u ++ r ∧ (∀ q, rdSym x ss (u ++ q) = .ok (t, ss', q)) ∧ ∀ v w, u = v ++ w → w ≠ [] → rdSym x ss v = .error 14 := by
 intro s t ss' r h
 unfold rdSym at h
 split at h
 ·rename_i hx
  split at h
  ·cases h
  rename_i k q hq
  obtain ⟨u, e1, e2, e3⟩ := rd_loc maxN _ _ _ hq
  split at h
  ·rename_i t0 ht
   cases h
   refine ⟨u, e1, fun q => ?_, fun v w e hw => ?_⟩
   ·unfold rdSym
    rw [if_pos hx, e2]
    simp only
    rw [ht]
   ·unfold rdSym
    rw [if_pos hx, e3 v w e hw]
  ·cases h
 ·rename_i hx
  split at h
  ·rename_i hx2
   split at h
   ·cases h
   rename_i t0 q hq
   obtain ⟨u, e1, e2, e3⟩ := rdT_loc 40 _ _ _ hq
   split at h
   ·cases h
   ·rename_i hm
    cases h
    refine ⟨u, e1, fun q => ?_, fun v w e hw => ?_⟩
    ·unfold rdSym
     rw [if_neg hx, if_pos hx2, e2]
     simp only
     rw [if_neg hm]
    ·unfold rdSym
     rw [if_neg hx, if_pos hx2, e3 v w e hw]
  ·cases h
end Go.Marshal
namespace Go.Proofs.YtgogonnnojcioaaGreatDoor
open Go.AX Go.RowKit Go.Marshal
set_option maxRecDepth 20000
theorem TrimW_c : ∀ H, SpecH Tryz.prog 141 (pvs [.string (bs [119]), .string (bs [32])]) H (Ret (.string (bs [119])) H) := fun H =>
 SpecH.rawP (R := fun r => r = .string (bs [119])) (callOk Tryz.func141 (by kernel_rfl) rfl)
  (fun w _ => (Tryz.strings_TrimLeft_one (bs [119]) 32 (by decide) w).mono fun e w' ⟨he, hw⟩ => ⟨_, he, rfl, by subst hw; exact Below.refl _ _⟩) fun r hr => by subst hr; exact ⟨rfl, rfl⟩
theorem Trim0_c (x : List UInt8) : ∀ H, SpecH Tryz.prog 141 (pvs [.string (bs []), .string (bs x)]) H (Ret (.string (bs [])) H) := by
 refine pureC hm Tryz.func141 (by kernel_rfl) rfl rfl ?_
 exact wZ
def formL : List UInt8 := [67, 99, 83, 115, 76, 108, 81, 113, 110, 78, 119, 85, 97, 65, 90, 72, 120, 64]
def wC : List Value := [.int .u8 119, .bool false, .int .i64 (-2)]
theorem read_w : SpecF Tryz.prog 119 [.string (bs [119])] (fun _ => True) (fun v G => ∃ db cap, v = .tuple #[.slice (some ⟨db, 0, none⟩) 1 cap, .bool true] ∧ ∀ w, G w → SlAt (some ⟨db, 0, none⟩) 3 wC w) := by
 refine specF hm Tryz.func119 (by kernel_rfl) rfl rfl ?_
 refine wX ?_
 refine call1 (TrimW_c _) ?_
 refine wX ?_
 refine LoopN.unroll 2 ?_
 refine wX ?_
 rw [show byteAt (bs [119]) (Int.toNat 0) = 119 from rfl]
 refine call1 (IndexByte_c formL 119 _) ?_
 refine wX ?_
 refine ReadW.tl rfl Tryz.underlying9 rfl rfl ?_
 refine wX ?_
 refine call1 (HasPrefix_c [] [62] _) ?_
 refine wX ?_
 refine call1 (Trim0_c [48, 49, 50, 51, 52, 53, 54, 55, 56, 57] _) ?_
 refine wX ?_
 refine call1 (HasPrefix_c [] [42] _) ?_
 refine wX ?_
 refine AppN.new wC ⟨rfl, rfl, rfl⟩ rfl (by refine ⟨Nat.le_refl 1, ⟨?_, ?_⟩, ?_⟩ <;> decide +kernel) fun b cap h1 h2 => ?_
 refine wX ?_
 refine call1 (Trim0_c [32] _) ?_
 refine wX ?_
 exact fin_p (SlAt (some ⟨b, 0, none⟩) 3 wC) ⟨b, cap, rfl, fun w hw => hw⟩ (fun w hw => hw.2.1)
theorem wide_c (n : Nat) (hn : n < 9223372036854775808) : ∀ H, SpecH Tryz.prog 57 (pvs [.int .i64 (n : Int)]) H (Ret (.string (bs (num n))) H) := by
 refine pureC hm Tryz.func57 (by kernel_rfl) rfl rfl ?_
 refine wXR ?_
 refine RwN.known [.bool false, .int .i64 (n : Int), .string ⟨#[]⟩] rfl fun ib => ?_
 refine wXR ?_
 refine spec_of_exec hm Tryz.func83 (by kernel_rfl) rfl rfl ?_
 refine wXR ?_
 refine spec_of_exec hm Tryz.func96 (by kernel_rfl) rfl rfl ?_
 refine wXR ?_
 refine SpecF.call read_w (fun w _ => trivial) fun v G hR => ?_
 obtain ⟨db, dc, rfl, hG⟩ := hR
 refine wXB ?_
 refine BoxN.known [.slice none 0 0, .slice (some ⟨ib, 0, none⟩) 1 1, .int .i64 0] rfl fun pb => ?_
 refine wX ?_
 refine LoopN.unroll 2 ?_
 refine wX ?_
 refine Nd.mk ⟨rfl, by decide, by decide⟩ ?_
 refine wX ?_
 refine LdN.agg wC rfl (fun w hw => hG w hw.2.1) rfl (fun k hk => by show wC[0 * 3 + k]? = _; rw [Nat.zero_mul, Nat.zero_add]) ?_
 refine wX ?_
 refine spec_of_exec hm Tryz.func120 (by kernel_rfl) rfl rfl ?_
 refine wX ?_
 refine call1 (IndexByte_c [97, 65, 90, 72] 119 _) ?_
 refine wX ?_
 refine spec_of_exec hm Tryz.func121 (by kernel_rfl) rfl rfl ?_
 refine wX ?_
 refine LoopN.unroll 2 ?_
 refine wX ?_
 refine spec_of_exec hm Tryz.func122 (by kernel_rfl) rfl rfl ?_
 refine wX ?_
 refine spec_of_exec hm Tryz.func120 (by kernel_rfl) rfl rfl ?_
 refine wX ?_
 refine call1 (IndexByte_c [97, 65, 90, 72] 119 _) ?_
 refine wX ?_
 refine spec_of_exec hm Tryz.func144 (by kernel_rfl) rfl rfl ?_
 refine wX ?_
 refine LdN.one (a := some ⟨pb, 0, none⟩) (q := 2) (.int .i64 0) rfl (fun w hw => hw.2.2.1) rfl ?_
 refine wX ?_
 refine LdN.one (a := some ⟨pb, 0, none⟩) (q := 1) (.slice (some ⟨ib, 0, none⟩) 1 1) rfl (fun w hw => hw.2.2.1) rfl ?_
 refine wX ?_
 refine DrawN.plan [0, 4] [(1, 1), (2, 1), (3, 1), (5, 1), (6, 1), (7, 1), (8, 1), (9, 1)] [(10, 2), (11, 0)] (by decide +kernel) ?_
 refine wX ?_
 refine LdN.one (a := some ⟨pb, 0, none⟩) (q := 1) (.slice (some ⟨ib, 0, none⟩) 1 1) rfl (fun w hw => hw.2.2.1) rfl ?_
 refine wX ?_
 refine LdN.one (a := some ⟨pb, 0, none⟩) (q := 2) (.int .i64 0) rfl (fun w hw => hw.2.2.1) rfl ?_
 refine wX ?_
 refine Nd.mk ⟨rfl, by decide, by decide⟩ ?_
 refine wX ?_
 refine LdN.agg [.bool false, .int .i64 (n : Int), .string ⟨#[]⟩] rfl (fun w hw => hw.1) rfl (fun k hk => by show [Value.bool false, .int .i64 (n : Int), .string ⟨#[]⟩][0 * 3 + k]? = _; rw [Nat.zero_mul, Nat.zero_add]) ?_
 refine wX ?_
 refine LdN.one (a := some ⟨pb, 0, none⟩) (q := 2) (.int .i64 0) rfl (fun w hw => hw.2.2.1) rfl ?_
 refine wX ?_
 refine EffW.appTo (i := 2) (q := 2) (ys := [_]) [.slice none 0 0, .slice (some ⟨ib, 0, none⟩) 1 1, .int .i64 1] 3 rfl rfl rfl rfl rfl rfl rfl (Nat.le_of_ble_eq_true rfl) rfl rfl ?_
 refine wX ?_
 refine spec_of_exec hm Tryz.func120 (by kernel_rfl) rfl rfl ?_
 refine wX ?_
 refine call1 (IndexByte_c [97, 65, 90, 72] 119 _) ?_
 refine wX ?_
 refine spec_of_exec hm Tryz.func146 (by kernel_rfl) rfl rfl ?_
 refine wX ?_
 refine SpecF.call (sevens_c n hn) (fun w _ => trivial) fun v G2 hR => ?_
 obtain ⟨ob, oc, rfl, hob, hG2⟩ := hR
 have hpos := num_pos n
 have hnl := num_len hn
 generalize num n = l at hpos hnl hG2 hob ⊢
 obtain ⟨ob, rfl⟩ : ∃ b, ob = some b := by
  cases ob with
  | none => rw [hob rfl] at hpos; exact absurd hpos (Nat.lt_irrefl 0)
  | some b => exact ⟨b, rfl⟩
 obtain ⟨k, hk⟩ : ∃ k, l.length = k + 1 := ⟨l.length - 1, by omega⟩
 rw [hk] at hnl hG2 ⊢
 refine wX ?_
 refine LdN.one (a := some ⟨pb, 0, none⟩) (q := 0) (.slice none 0 0) rfl (fun w hw => hw.2.2.1) rfl ?_
 refine wX ?_
 refine brd_dec (fun h => absurd h (by rw [wrap_i64 (by omega)]; omega)) (fun _ => ?_)
 refine wX ?_
 refine LdN.one (a := some ⟨pb, 0, none⟩) (q := 0) (.slice none 0 0) rfl (fun w hw => hw.2.2.1) rfl ?_
 refine wX ?_
 refine Nd.mk rfl ?_
 (conv => whnf)
 refine ApN.intro (u8s l) (by show _ = (k + 1) * 1; rw [u8s_len]; omega) (fun u hu => by obtain ⟨c, _, rfl⟩ := List.mem_map.1 hu; rfl) (fun w hw j v hv => (hG2 w hw.2.2.2.1).cell hv) ?_
 (conv => whnf)
 refine AppN.new (u8s l) ⟨rfl, rfl, rfl⟩ (plains_vs _) ⟨by show 1 ≤ k + 1; omega, ⟨by show (0 + (k + 1)) * 1 ≤ _; omega, by omega⟩, by decide⟩ fun b' cap' h2 h3 => ?_
 refine wX ?_
 refine EffW.appTo (i := 2) (q := 0) (ys := [_]) [.slice (some ⟨b', 0, none⟩) (k + 1) cap', .slice (some ⟨ib, 0, none⟩) 1 1, .int .i64 1] 3 rfl rfl rfl rfl rfl rfl rfl (Nat.le_of_ble_eq_true rfl) rfl rfl ?_
 refine wX ?_
 refine LdN.one (a := some ⟨pb, 0, none⟩) (q := 0) (.slice (some ⟨b', 0, none⟩) (k + 1) cap') rfl (fun w hw => hw.2.2.1) rfl ?_
 refine wX ?_
 refine ReadW.bytes l hk rfl rfl rfl rfl rfl (fun w hw => by have h9 : SlAt (some ⟨b', 0, none⟩) ((k + 1) * 1) (u8s l) w := hw.2.2.2.2.1; rw [Nat.mul_one] at h9; exact h9) ?_
 refine wX ?_
 rfl
end Go.Proofs.YtgogonnnojcioaaGreatDoor
namespace Go.AX
def seek {α : Type} [DecidableEq α] (k : α) : List (α × Value) → Nat → Option (Nat × Value)
 | [], _ => none
 | (q, v) :: R, i => if k = q then some (i, v) else seek k R (i + 1)
def upd {α : Type} [DecidableEq α] (k : α) (v : Value) : List (α × Value) → List (α × Value)
 | [] => [(k, v)]
 | (q, x) :: R => if k = q then (q, v) :: R else (q, x) :: upd k v R
theorem seek_look {α : Type} [DecidableEq α] (k : α) : ∀ (R : List (α × Value)) (i : Nat), (seek k R i).map Prod.snd = R.lookup k
 | [], _ => rfl
 | (q, v) :: R, i => by
  unfold seek
  rw [List.lookup_cons]
  by_cases h : k = q
  ·subst h
   rw [if_pos rfl, beq_self_eq_true]
   rfl
  ·rw [if_neg h, show (k == q) = false by simp [h]]
   exact seek_look k R (i + 1)
theorem seek_ge {α : Type} [DecidableEq α] (k : α) : ∀ (R : List (α × Value)) (i j : Nat) (v : Value), seek k R i = some (j, v) → i ≤ j
 | [], _, _, _, h => by cases h
 | (q, x) :: R, i, j, v, h => by
  unfold seek at h
  split at h
  ·cases h; exact Nat.le_refl _
  ·have := seek_ge k R (i + 1) j v h; omega
def KeysAre {α : Type} (enc : α → Value) (es : List MapEntry) (R : List (α × Value)) : Prop := es.map (fun e => (e.key, e.val)) = R.map fun r => (enc r.1, r.2)
section
variable {α : Type} [DecidableEq α] {enc : α → Value}
theorem KeysAre.put {k : α} {v : Value} {born : Nat} : ∀ {es : List MapEntry} {R : List (α × Value)} {i : Nat}, KeysAre enc es R → seek k R i = none → KeysAre enc (es ++ [{ key := enc k, val := v, born := born }]) (upd k v R)
 | [], [], _, _, _ => rfl
 | [], _ :: _, _, h, _ => by cases h
 | _ :: _, [], _, h, _ => by cases h
 | e :: es, (q, x) :: R, i, h, hs => by
  unfold KeysAre at h
  simp only [List.map_cons, List.cons.injEq] at h
  unfold seek at hs
  split at hs
  ·cases hs
  ·rename_i hk
   have ih := KeysAre.put (v := v) (born := born) (es := es) (R := R) h.2 hs
   unfold upd
   rw [if_neg hk]
   unfold KeysAre at ih ⊢
   rw [List.cons_append, List.map_cons, List.map_cons, ih, h.1]
theorem KeysAre.set {k : α} {v : Value} : ∀ {es : List MapEntry} {R : List (α × Value)} {i j : Nat} {x : Value}, KeysAre enc es R → seek k R i = some (i + j, x) → KeysAre enc (es.modify j fun e => { e with key := enc k, val := v }) (upd k v R) ∧ ∃ e, es[j]? = some e ∧ e.key = enc k
 | [], [], _, _, _, _, hs => by cases hs
 | [], _ :: _, _, _, _, h, _ => by cases h
 | _ :: _, [], _, _, _, h, _ => by cases h
 | e :: es, (q, y) :: R, i, j, x, h, hs => by
  unfold KeysAre at h
  simp only [List.map_cons, List.cons.injEq] at h
  unfold seek at hs
  unfold upd
  split at hs
  ·rename_i hk
   subst hk
   simp only [Option.some.injEq, Prod.mk.injEq] at hs
   obtain rfl : j = 0 := by omega
   rw [if_pos rfl]
   refine ⟨?_, e, rfl, congrArg Prod.fst h.1⟩
   unfold KeysAre
   show _ :: List.map _ es = _ :: _
   rw [h.2]
  ·rename_i hk
   have hge := seek_ge k R (i + 1) (i + j) x hs
   obtain ⟨j, rfl⟩ : ∃ j2, j = j2 + 1 := ⟨j - 1, by omega⟩
   obtain ⟨h1, e2, h2, h3⟩ := KeysAre.set (v := v) (es := es) (R := R) (i := i + 1) (j := j) (x := x) h.2 (by rw [hs]; congr 2; omega)
   rw [if_neg hk]
   refine ⟨?_, e2, h2, h3⟩
   unfold KeysAre at h1 ⊢
   rw [show List.modify (e :: es) (j + 1) (fun e => { e with key := enc k, val := v }) = e :: List.modify es j (fun e => { e with key := enc k, val := v }) from rfl, List.map_cons, List.map_cons, h1, h.1]
end
structure KeyT (P : Program) (kt : TypeId) {α : Type} [DecidableEq α] (enc : α → Value) : Prop where
 check : ∀ (w : World) (e : Bool) (k : α), (Instr.checkKey e 10000 kt (enc k)).run P w = .ok () w
 find : ∀ (w : World) (k : α) (es : List MapEntry) (R : List (α × Value)), KeysAre enc es R → (Instr.findKey kt (enc k) es).run P w = .ok (seek k R 0) w
 stay : ∀ (w : World) (k : α), (Instr.keyThatStays (enc k) (enc k)).run P w = .ok (enc k) w
theorem findNow_seek {κ : IntKind} (k : Int) : ∀ (es : List MapEntry) (R : List (Int × Value)) (i : Nat), KeysAre (fun k => .int κ k) es R → Instr.findNow (.int κ) (.int κ k) es i = some (seek k R i)
 | [], [], _, _ => rfl
 | [], _ :: _, _, h => by cases h
 | _ :: _, [], _, h => by cases h
 | e :: es, (q, x) :: R, i, h => by
  unfold KeysAre at h
  simp only [List.map_cons, List.cons.injEq, Prod.mk.injEq] at h
  have ih := findNow_seek k es R (i + 1) h.2
  unfold seek
  rw [Instr.findNow, h.1.1]
  by_cases hk : k = q
  ·subst hk
   simp [Instr.sameNow, h.1.2]
  ·have hb : (k == q) = false := by simp [hk]
   simp [Instr.sameNow, hb, hk, ih]
theorem intKeyT {P : Program} {kt : TypeId} {κ : IntKind} (h : P.underlying kt = some (.int κ)) : KeyT P kt (fun k : Int => .int κ k) where
 check := fun w e k => MapKept.run_checkKey (k := .int κ k) h (by simp [MapKept.IsKey]) e 9999
 find := fun w k es R hr => MapKept.run_findKey h (findNow_seek k es R 0 hr)
 stay := fun w k => MapKept.run_keyThatStays (d := .int κ) (k := .int κ k) (by simp [MapKept.IsKey])
section
variable {P : Program} {o : Oper} {s : List AV} {H : List Ent} {t kt et : TypeId} {m k : Operand} {b c : Nat} {es : Array MapEntry} {α : Type} [DecidableEq α] {enc : α → Value} {p : α}
theorem ReadW.keyMap {K : AV → Prop} {inf : TypeInfo} {z : Value} (R : List (α × Value)) (ho : o.op = .lookup t m k false) (ht : P.underlying t = some (.map kt et)) (hkt : KeyT P kt enc) (hi : P.info? et = some inf) (hz : inf.zero = some z)
  (hm : opv s m = .c (.v (.map (some b)))) (hk : opv s k = .c (.v (enc p))) (hF : ∀ w, Facts H w → w.heap[b]? = some (.map es c)) (hf : KeysAre enc es.toList R) (h : K (.c (.v ((R.lookup p).getD z)))) : ReadW P o s H K :=
 ReadW.val ((R.lookup p).getD z) (fun cs b e => by rw [ho] at e; cases e) (by rw [ho]; show allPlain s [m, k] = true; simp [allPlain, hm, hk]) (fun w hw => by
  have hb := hF w hw
  have hc := hkt.check w es.isEmpty p
  have hj := hkt.find w p es.toList R hf
  have hlk := seek_look p R 0
  have hrun : (Instr.lookup t (.map (some b)) (enc p) false).run P w = .ok ((R.lookup p).getD z) w := by
   cases hr : seek p R 0 with
   | none => rw [hr] at hj hlk; rw [← hlk]; simp [Instr.lookup, run_underlying ht, MapKept.run_getObj_map hb, hc, hj, Result.andThen, run_zeroValue hi hz]
   | some q => rw [hr] at hj hlk; rw [← hlk]; simp [Instr.lookup, run_underlying ht, MapKept.run_getObj_map hb, hc, hj, Result.andThen]
  unfold execOp
  simp only [ho, plainEv_v hm, plainEv_v hk, Sem.run_bind, hrun, Result.andThen_ok, Sem.run_pure]) h
theorem EffW.setMap {K : AV → List Ent → Prop} {x : Operand} {val : Value} (i : Nat) (R : List (α × Value)) (ho : o.op = .mapUpdate t m k x) (ht : P.underlying t = some (.map kt et)) (hkt : KeyT P kt enc)
  (hm : opv s m = .c (.v (.map (some b)))) (hk : opv s k = .c (.v (enc p))) (hx : opv s x = .c (.v val)) (hi : nthE H i = some (.mp b es c)) (hf : KeysAre enc es.toList R)
  (next : ∀ es' c', KeysAre enc es'.toList (upd p val R) → setEK H i (.mp b es' c') fun H' => K (.c .any) H') : EffW P o s H K := by
 rw [nthE_eq] at hi
 obtain ⟨es', c', hnew, hrun⟩ : ∃ es' c', KeysAre enc es'.toList (upd p val R) ∧ ∀ w : World, w.heap[b]? = some (.map es c) → (Instr.mapUpdate t (.map (some b)) (enc p) val).run P w = .ok () { w with heap := w.heap.setIfInBounds b (.map es' c') } := by
  cases hr : seek p R 0 with
  | none =>
   refine ⟨es.push { key := enc p, val := val, born := c }, c + 1, by rw [Array.toList_push]; exact hf.put hr, fun w hb => ?_⟩
   have hj := hkt.find w p es.toList R hf
   rw [hr] at hj
   simp [Instr.mapUpdate, run_underlying ht, MapKept.run_getObj_map hb, hkt.check w false p, hj, MapKept.run_setObj_map _ hb, Result.andThen]
  | some q =>
   obtain ⟨j, v0⟩ := q
   obtain ⟨h1, e, h2, h3⟩ := hf.set (v := val) (i := 0) (j := j) (x := v0) (by rw [Nat.zero_add]; exact hr)
   refine ⟨es.modify j fun e => { e with key := enc p, val := val }, c, by rw [Array.toList_modify]; exact h1, fun w hb => ?_⟩
   have hj := hkt.find w p es.toList R hf
   rw [hr] at hj
   have h2' : es[j]? = some e := by rw [← h2]; simp
   have hst : (Instr.keyThatStays (((es[j]?).map (·.key)).getD (enc p)) (enc p)).run P w = .ok (enc p) w := by
    rw [h2']
    show (Instr.keyThatStays e.key (enc p)).run P w = _
    rw [h3]
    exact hkt.stay w p
   simp only [Instr.mapUpdate, Sem.run_bind, run_underlying ht, Result.andThen_ok, MapKept.run_getObj_map hb, hkt.check w false p, hj, hst, MapKept.run_setObj_map _ hb]
 obtain ⟨_, hk2⟩ := setEK_spec (next es' c' hnew)
 refine Effs.w (fun ρ S w a hs hr => ?_) hk2
 have h1 : a.eval m = .map (some b) := by have := opv_rel hr m; rw [hm] at this; exact this
 have h2 : a.eval k = enc p := by have := opv_rel hr k; rw [hk] at this; exact this
 have h3 : a.eval x = val := by have := opv_rel hr x; rw [hx] at this; exact this
 have hb : w.heap[b]? = some (.map es c) := hs.ent i _ hi
 have hbl : b < w.heap.size := (Array.getElem?_eq_some_iff.1 hb).1
 have hS := hs.setG (e' := .mp b es' c') (c := b) (w' := { w with heap := w.heap.setIfInBounds b (.map es' c') }) hi rfl (by simp) (fun j _ hne => by simp [Ne.symm hne]) rfl rfl rfl (fun _ hc => .inl (Option.some.inj hc).symm) (by show (w.heap.setIfInBounds b _)[b]? = _; simp [hbl])
 refine ⟨.skip, undef, ρ, _, ?_, .inr ⟨rfl, rfl⟩, hS.1, hS.2, trivial⟩
 unfold execOp
 simp only [ho, h1, h2, h3, Sem.run_bind, Sem.run_pure, hrun w hb, Result.andThen_ok]
end
end Go.AX
