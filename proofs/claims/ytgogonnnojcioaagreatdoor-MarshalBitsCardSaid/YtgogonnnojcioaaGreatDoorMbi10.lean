/-
  MarshalBitsCardSaid is proved: of every numbers MarshalBits returns true; the listed tables are tied to the program's text.
-/
import Derived.Test.YtgogonnnojcioaaGreatDoorCards
import Derived.Test.YtgogonnnojcioaaGreatDoorTie
import Derived.Test.YtgogonnnojcioaaGreatDoorMbi9
set_option linter.unusedVariables false
set_option linter.unusedSimpArgs false
namespace Go.Proofs.YtgogonnnojcioaaGreatDoor
open Go.AX Go.RowKit Go.Core Go.Marshal
set_option maxRecDepth 20000
theorem checkW (a : Option Addr) (ca : Nat) (l : List CellP) (ha : a = none → l = []) (hs : l.length ≤ 2000 ∧ ∀ p ∈ l, p.c.names.length ≤ 40000 ∧ p.c.items.length ≤ 40000) (hok : ∀ p ∈ l, CellOk p) (b : Bool) (hb : b = true ↔ ValidP (l.map (·.c))) :
  ∀ H, (∀ w, Facts H w → GrF a l w) → SpecH Tryz.prog 65 (pvs [.slice a l.length ca]) H (Ret (errI b) H) := by
 intro H hH
 obtain ⟨b2, hb2, h⟩ := Check_w a ca l ha hs hok H hH
 have e : b2 = b := by rw [Bool.eq_iff_iff, hb, hb2]
 rw [← e]
 exact h
def P0 : RdP := ⟨[], none, 0, none, 0, none, 0⟩
def RdR (st : PS) (v : Value) (G : World → Prop) : Prop := ∃ (rb : Nat) (p : RdP), v = .tuple #[.pointer (some ⟨rb, 0, none⟩), .int .i64 st.e] ∧ RdOk st p ∧ ∀ w, G w → SlAt (some ⟨rb, 0, none⟩) 5 (rdC st p) w ∧ SlAt p.ga (p.m.length * 5) (grC p.m) w ∧ (∀ q ∈ p.m, CellF q w) ∧ SlAt p.sa (st.ss.length * 1) (strC st.ss) w
set_option maxHeartbeats 4000000 in
theorem read_c (s : List UInt8) (hs : s.length ≤ 20000) : SpecF Tryz.prog 41 [.string (bs s)] (fun w => ∀ q ∈ ([] : List CellP), CellF q w) (RdR (readM s)) := by
 refine specF_of ?_
 refine SpecH.pad [.app 57 5 [] none 0 0, .app 3 1 [] none 0 0, .app 9 1 [] none 0 0] rfl ?_
 refine spec_of_exec hm Tryz.func41 (by kernel_rfl) rfl rfl ?_
 have hsz := bs_size s
 refine wXB ?_
 refine brd_dec (fun h => absurd h (by rw [hsz]; omega)) (fun _ => ?_)
 refine wXB ?_
 refine BoxN.known [.string (bs s), .slice none 0 0, .slice none 0 0, .slice none 0 0, .int .i64 0] rfl fun rb => ?_
 refine wXK ?_
 refine RwN.known [.int .u8 67, .int .u8 77, .int .u8 1] rfl fun hb => ?_
 refine wXK ?_
 refine EffW.constB 5 rfl Tryz.underlying29 Tryz.underlying5 rfl rfl ?_
 obtain ⟨S0, hS0⟩ : ∃ S0, headM headB ⟨s, [], [], [], 0⟩ = S0 := ⟨_, rfl⟩
 have ok0 : RdOk ⟨s, [], [], [], 0⟩ P0 := ⟨rfl, (fun q hq => by cases hq), fun _ => rfl, fun _ => rfl, fun _ => rfl, (fun t ht => by cases ht), .inl rfl⟩
 have bd0 : Bd ⟨s, [], [], [], 0⟩ := ⟨Nat.zero_le _, Nat.le_refl _, by show 0 + s.length ≤ _; omega⟩
 refine wXK ?_
 refine LoopN.intro (Nat × PS) (fun ⟨i, st⟩ => i ≤ 3 ∧ headM (headB.drop i) st = S0 ∧ RdOk st P0 ∧ Le 0 ⟨s, [], [], [], 0⟩ st)
  (fun ⟨i, _⟩ => mkS Tryz.f41.ntmps 0 [(4, .c (.v (.pointer (some ⟨rb, 0, none⟩)))), (14, .c (.v (.slice (some ⟨hb, 0, none⟩) 3 3))), (15, .c (.v (.int .i64 3))), (16, .c (.v (.int .i64 (i : Int))))])
  (fun ⟨_, st⟩ => [.fact fun w => ∀ q ∈ ([] : List CellP), CellF q w, .app 57 5 [] none 0 0, .app 3 1 (iC st.cells) none st.cells.length 0, .app 9 1 (strC st.ss) none st.ss.length 0, .app 84 5 (rdC st P0) (some ⟨rb, 0, none⟩) 1 1, .app 5 1 [.int .u8 67, .int .u8 77, .int .u8 1] (some ⟨hb, 0, none⟩) 3 3]) (fun ⟨i, _⟩ => 3 - i) [] rfl
  (fun _ => rfl) (fun _ => rfl) (fun _ _ => okHB_eq rfl) ⟨(0, ⟨s, [], [], [], 0⟩), ⟨by omega, hS0, ok0, Le.refl _⟩, ?_, ?_⟩ ?_
 ·exact wKK
 ·exact ⟨wkE_refl _, wkE_refl _, wkE_refl _, wkE_refl _, wkE_refl _, wkE_refl _, wkH_nil _⟩
 rintro ⟨i, st⟩ ⟨h1, h2, h3, h4⟩
 refine wXK ?_
 refine brd_dec (fun hi => ?_) (fun hi => ?_)
 ·obtain ⟨c, hc⟩ : ∃ c, headB[i]? = some c := ⟨_, List.getElem?_eq_getElem (by show i < 3; omega)⟩
  have hd : headB.drop i = c :: headB.drop (i + 1) := by
   obtain ⟨h5, h6⟩ := List.getElem?_eq_some_iff.1 hc
   rw [← h6, List.getElem_cons_drop]
  rw [hd] at h2
  have h2 : headM (headB.drop (i + 1)) (if (nextM st).1 ≠ c then failM (nextM st).2 4 else (nextM st).2) = S0 := h2
  have hcv : ([.int .u8 67, .int .u8 77, .int .u8 1] : List Value)[i]? = some (.int .u8 (c.toNat : Int)) := by
   rcases i with _ | _ | _ | i
   ·cases hc; rfl
   ·cases hc; rfl
   ·cases hc; rfl
   ·cases hc
  have hnx := next_m rb st P0
  have hln := h4.trans (next_le st)
  have okn := h3.same (next_keep st)
  generalize nextM st = r at h2 hnx hln okn ⊢
  obtain ⟨x, st2⟩ := r
  simp only at h2 hnx hln okn
  refine wXK ?_
  refine Nd.mk ⟨rfl, by omega, by omega⟩ ?_
  refine wXK ?_
  refine LdN.one (.int .u8 (c.toNat : Int)) rfl (fun w hw => hw.2.2.2.2.2.1) (by show ([.int .u8 67, .int .u8 77, .int .u8 1] : List Value)[Int.toNat _ * 1]? = _; rw [Int.toNat_natCast, Nat.mul_one]; exact hcv) ?_
  refine wXK ?_
  refine callG (hnx) [4, 1, 0, 2, 3] rfl ⟨rfl, rfl, rfl, rfl, rfl, trivial⟩ rfl fun _ _ => ?_
  refine wXK ?_
  refine brd_ne (fun h7 => ?_) (fun h7 => ?_)
  ·have hxc : x ≠ c := fun h => h7 (by rw [h])
   rw [if_pos hxc] at h2
   refine wXK ?_
   refine callG (fail_m rb st2 P0 4) [4, 1, 0, 2, 3] rfl ⟨rfl, rfl, rfl, rfl, rfl, trivial⟩ rfl fun _ _ => ?_
   refine wXK ?_
   refine ⟨(i + 1, failM st2 4), ⟨by omega, h2, okn.same (fail_ss st2 4), hln.trans (fail_le st2 4)⟩, by show 3 - (i + 1) < 3 - i; omega, ?_, wkE_refl _, wkE_refl _, wkE_refl _, wkE_refl _, wkE_refl _, wkE_refl _, wkH_nil _⟩
   exact wKK
  ·have hxc : x = c := UInt8.toNat_inj.1 (by omega)
   rw [if_neg (fun h => h hxc)] at h2
   refine wXK ?_
   refine ⟨(i + 1, st2), ⟨by omega, h2, okn, hln⟩, by show 3 - (i + 1) < 3 - i; omega, ?_, wkE_refl _, wkE_refl _, wkE_refl _, wkE_refl _, wkE_refl _, wkE_refl _, wkH_nil _⟩
   exact wKK
 ·obtain rfl : i = 3 := by omega
  have h2 : st = S0 := h2
  subst h2
  have hR : readM s = checkM (endM (cellM (s.length + 1) st).2) := by unfold readM; rw [hS0]
  rw [hR]
  have hs4 : st.s.length ≤ s.length := h4.s
  have bd4 := bd0.le h4
  have hce := cell_rd (s.length + 1) rb st P0 h3 bd4 (.inl (by omega))
  have hwd := cell_wd (s.length + 1) st bd4 (by unfold Wd; rw [← h3.g]; intro c hc; cases hc)
  have bd5 := bd4.le ((cell_takes (s.length + 1)).le st)
  generalize cellM (s.length + 1) st = r at hce hwd bd5 ⊢
  obtain ⟨z, st1⟩ := r
  simp only at hce hwd bd5
  refine wXK ?_
  refine callG hce [4, 1, 0, 2, 3] rfl ⟨rfl, rfl, rfl, rfl, rfl, trivial⟩ rfl fun p hp => ?_
  refine wXK ?_
  refine LdN.one (a := some ⟨rb, 0, none⟩) (q := 4) (.int .i64 st1.e) rfl (fun w hw => hw.2.2.2.2.1) rfl ?_
  refine wXK ?_
  by_cases he : st1.e = 0
  ·rw [show (st1.e == 0) = true by rw [he]; rfl]
   refine wXK ?_
   refine LdN.one (a := some ⟨rb, 0, none⟩) (q := 0) (.string (bs st1.s)) rfl (fun w hw => hw.2.2.2.2.1) rfl ?_
   refine wXK ?_
   have hsn : ((bs st1.s).data.toList == (⟨#[]⟩ : ByteArray).data.toList) = decide (st1.s = []) := by rw [bs_list]; cases st1.s <;> rfl
   rw [hsn]
   by_cases hs1 : st1.s = []
   ·rw [decide_eq_true hs1]
    have e1 : endM st1 = st1 := by
     unfold endM
     rw [if_neg (fun h => h.2 hs1)]
    have hml : p.m.length = st1.g.length := by rw [← hp.g, List.length_map]
    have hgl := bd5.g
    obtain ⟨b, hb⟩ : ∃ b : Bool, b = true ↔ ValidP (p.m.map (·.c)) := by
     by_cases h : ValidP (p.m.map (·.c))
     ·exact ⟨true, fun _ => h, fun _ => rfl⟩
     ·exact ⟨false, (fun h => by cases h), fun h2 => absurd h2 h⟩
    have e2 : checkM st1 = { st1 with e := if b then 0 else 1 } := by
     unfold checkM
     rw [if_pos he]
     congr 1
     rw [← hp.g]
     cases b with
     | true => rw [if_pos (hb.1 rfl)]; rfl
     | false => rw [if_neg (fun h => by have := hb.2 h; cases this)]; rfl
    have hwm : ∀ q ∈ p.m, q.c.names.length ≤ 40000 ∧ q.c.items.length ≤ 40000 := fun q hq => by
     have := hwd q.c (by rw [← hp.g]; exact List.mem_map.2 ⟨q, hq, rfl⟩)
     exact ⟨Nat.le_trans this.1 (by decide), Nat.le_trans this.2 (by decide)⟩
    rw [show (z, st1).2 = st1 from rfl, e1, e2]
    refine wXK ?_
    refine LdN.one (a := some ⟨rb, 0, none⟩) (q := 4) (.int .i64 st1.e) rfl (fun w hw => hw.2.2.2.2.1) rfl ?_
    rw [he]
    refine wXK ?_
    refine LdN.one (a := some ⟨rb, 0, none⟩) (q := 1) (.slice p.ga p.m.length p.gc) rfl (fun w hw => hw.2.2.2.2.1) rfl ?_
    refine wXK ?_
    refine call1 (checkW p.ga p.gc p.m hp.ga ⟨by omega, hwm⟩ hp.cell b hb _ (fun w hw => ⟨hw.2.1, hw.1⟩)) ?_
    refine wXK ?_
    refine EffW.appTo (i := 4) (q := 4) (ys := [_]) (rdC ({ st1 with e := if b then 0 else 1 }) p) 5 rfl rfl rfl rfl rfl rfl rfl (Nat.le_of_ble_eq_true rfl) rfl rfl ?_
    refine wXK ?_
    refine LdN.one (a := some ⟨rb, 0, none⟩) (q := 4) (.int .i64 (if b then 0 else 1)) rfl (fun w hw => hw.2.2.2.2.1) rfl ?_
    refine wXK ?_
    exact fin_p (fun w => SlAt (some ⟨rb, 0, none⟩) 5 (rdC ({ st1 with e := if b then 0 else 1 }) p) w ∧ SlAt p.ga (p.m.length * 5) (grC p.m) w ∧ (∀ q ∈ p.m, CellF q w) ∧ SlAt p.sa (({ st1 with e := if b then 0 else 1 }).ss.length * 1) (strC ({ st1 with e := if b then 0 else 1 }).ss) w) ⟨rb, p, rfl, hp.same (st' := { st1 with e := if b then 0 else 1 }) ⟨rfl, rfl, rfl⟩, fun w hw => hw⟩ (fun w hw => ⟨hw.2.2.2.2.1, hw.2.1, hw.1, hw.2.2.2.1⟩)
   ·rw [decide_eq_false hs1]
    have e1 : endM st1 = failM st1 4 := by
     unfold endM
     rw [if_pos ⟨he, hs1⟩]
    have he4 : (failM st1 4).e = 4 := fail_e he 4
    have e2 : checkM (failM st1 4) = failM st1 4 := check_dead (by rw [he4]; decide)
    rw [show (z, st1).2 = st1 from rfl, e1, e2]
    have ok4 := hp.same (fail_ss st1 4)
    refine wXK ?_
    refine callG (fail_m rb st1 p 4) [4, 1, 0, 2, 3] rfl ⟨rfl, rfl, rfl, rfl, rfl, trivial⟩ rfl fun _ _ => ?_
    generalize failM st1 4 = st4 at he4 ok4 ⊢
    refine wXK ?_
    refine LdN.one (a := some ⟨rb, 0, none⟩) (q := 4) (.int .i64 st4.e) rfl (fun w hw => hw.2.2.2.2.1) rfl ?_
    rw [he4]
    refine wXK ?_
    refine LdN.one (a := some ⟨rb, 0, none⟩) (q := 4) (.int .i64 st4.e) rfl (fun w hw => hw.2.2.2.2.1) rfl ?_
    refine wXK ?_
    exact fin_p (fun w => SlAt (some ⟨rb, 0, none⟩) 5 (rdC (st4) p) w ∧ SlAt p.ga (p.m.length * 5) (grC p.m) w ∧ (∀ q ∈ p.m, CellF q w) ∧ SlAt p.sa ((st4).ss.length * 1) (strC (st4).ss) w) ⟨rb, p, rfl, ok4, fun w hw => hw⟩ (fun w hw => ⟨hw.2.2.2.2.1, hw.2.1, hw.1, hw.2.2.2.1⟩)
  ·have e1 : checkM (endM st1) = st1 := by rw [end_dead he, check_dead he]
   rw [e1]
   rw [show (st1.e == 0) = false by simpa using he]
   refine wXK ?_
   refine LdN.one (a := some ⟨rb, 0, none⟩) (q := 4) (.int .i64 st1.e) rfl (fun w hw => hw.2.2.2.2.1) rfl ?_
   refine wXK ?_
   refine brd_eq (fun h => absurd h he) (fun _ => ?_)
   refine wXK ?_
   refine LdN.one (a := some ⟨rb, 0, none⟩) (q := 4) (.int .i64 st1.e) rfl (fun w hw => hw.2.2.2.2.1) rfl ?_
   refine wXK ?_
   exact fin_p (fun w => SlAt (some ⟨rb, 0, none⟩) 5 (rdC (st1) p) w ∧ SlAt p.ga (p.m.length * 5) (grC p.m) w ∧ (∀ q ∈ p.m, CellF q w) ∧ SlAt p.sa ((st1).ss.length * 1) (strC (st1).ss) w) ⟨rb, p, rfl, hp, fun w hw => hw⟩ (fun w hw => ⟨hw.2.2.2.2.1, hw.2.1, hw.1, hw.2.2.2.1⟩)
theorem read_long (s : List UInt8) (hs : 20000 < s.length) : ∀ H, SpecH Tryz.prog 41 (pvs [.string (bs s)]) H (Ret (.tuple #[.pointer none, .int .i64 2]) H) := by
 refine pureC hm Tryz.func41 (by kernel_rfl) rfl rfl ?_
 have hsz := bs_size s
 refine wX ?_
 refine brd_dec (fun h => ?_) (fun h => absurd (show (s.length : Int) > 20000 by omega) (by rw [hsz] at h; exact h))
 exact wZ
def GraphR (g : List Cell) (v : Value) (G : World → Prop) : Prop := ∃ (a : Option Addr) (c : Nat) (m : List CellP), v = .slice a m.length c ∧ m.map (·.c) = g ∧ (a = none → m = []) ∧ (∀ q ∈ m, CellOk q) ∧ ∀ w, G w → GrF a m w
def LoadR (r : Except Int (List Cell × List B)) (v : Value) (G : World → Prop) : Prop := match r with
 | .error e => v = .tuple #[.slice none 0 0, .int .i64 e]
 | .ok (g, _) => ∃ v1, v = .tuple #[v1, .int .i64 0] ∧ GraphR g v1 G
theorem Load_c (s : List UInt8) : SpecF Tryz.prog 16 [.string (bs s)] (fun _ => True) (LoadR (loadS s)) := by
 refine specF hm Tryz.func16 (by kernel_rfl) rfl rfl ?_
 by_cases hs : 20000 < s.length
 ·have hl : loadS s = .error 2 := by unfold loadS; rw [if_pos hs]
  rw [hl]
  refine wX ?_
  refine call1 (read_long s hs _) ?_
  refine wX ?_
  exact fin_v rfl
 ·have href := load_ref (s := s) (by omega)
  ((conv => whnf); (repeat ((first | refine VrN.keep ?_ | refine BoxN.own ?_ | refine RwN.own ?_); (conv => whnf))))
  refine SpecF.call (read_c s (by omega)) (fun w _ q hq => by cases hq) fun v G hR => ?_
  obtain ⟨rb, p, rfl, ok, hG⟩ := hR
  generalize readM s = st at href ok hG ⊢
  cases hl : loadS s with
  | error e =>
   obtain ⟨h1, h2⟩ := href.2 e hl
   refine wX ?_
   rw [h1]
   refine brd_ne (fun _ => ?_) (fun h => absurd h h2)
   refine wX ?_
   exact fin_v rfl
  | ok r =>
   obtain ⟨h1, h2, h3⟩ := href.1 r hl
   obtain ⟨g, ss⟩ := r
   refine wX ?_
   rw [h1]
   refine wX ?_
   refine LdN.one (a := some ⟨rb, 0, none⟩) (q := 1) (.slice p.ga p.m.length p.gc) rfl (fun w hw => (hG w hw.2.1).1) rfl ?_
   refine wX ?_
   exact fin_p (fun w => GrF p.ga p.m w) ⟨_, rfl, p.ga, p.gc, p.m, rfl, by rw [ok.g]; exact h2, ok.ga, ok.cell, fun w hw => hw⟩ (fun w hw => ⟨(hG w hw.2.1).2.1, (hG w hw.2.1).2.2.1⟩)
def errS (r : Except Int (List Cell × List B)) : Int := match r with
 | .error e => e
 | .ok _ => 0
theorem MCheck_c (s : List UInt8) : SpecF Tryz.prog 24 [.string (bs s)] (fun _ => True) (fun v _ => v = .int .i64 (errS (loadS s))) := by
 refine specF hm Tryz.func24 (by kernel_rfl) rfl rfl ?_
 by_cases hs : 20000 < s.length
 ·have hl : loadS s = .error 2 := by unfold loadS; rw [if_pos hs]
  rw [hl]
  refine wX ?_
  refine call1 (read_long s hs _) ?_
  refine wX ?_
  exact fin_v rfl
 ·have href := load_ref (s := s) (by omega)
  ((conv => whnf); (repeat ((first | refine VrN.keep ?_ | refine BoxN.own ?_ | refine RwN.own ?_); (conv => whnf))))
  refine SpecF.call (read_c s (by omega)) (fun w _ q hq => by cases hq) fun v G hR => ?_
  obtain ⟨rb, p, rfl, ok, hG⟩ := hR
  generalize readM s = st at href ok hG ⊢
  cases hl : loadS s with
  | error e =>
   obtain ⟨h1, h2⟩ := href.2 e hl
   refine wX ?_
   rw [h1]
   exact fin_v rfl
  | ok r =>
   obtain ⟨h1, h2, h3⟩ := href.1 r hl
   refine wX ?_
   rw [h1]
   exact fin_v rfl
def TextsR (l : List B) (v : Value) (G : World → Prop) : Prop := ∃ (a : Option Addr) (c : Nat), v = .slice a l.length c ∧ (a = none → l = []) ∧ ∀ w, G w → SlAt a (l.length * 1) (strC l) w
def SymsR (r : Except Int (List Cell × List B)) (v : Value) (G : World → Prop) : Prop := match r with
 | .error e => v = .tuple #[.slice none 0 0, .int .i64 e]
 | .ok (_, ss) => ∃ v1, v = .tuple #[v1, .int .i64 0] ∧ TextsR ss v1 G
theorem Symbols_c (s : List UInt8) : SpecF Tryz.prog 38 [.string (bs s)] (fun _ => True) (SymsR (loadS s)) := by
 refine specF hm Tryz.func38 (by kernel_rfl) rfl rfl ?_
 by_cases hs : 20000 < s.length
 ·have hl : loadS s = .error 2 := by unfold loadS; rw [if_pos hs]
  rw [hl]
  refine wX ?_
  refine call1 (read_long s hs _) ?_
  refine wX ?_
  exact fin_v rfl
 ·have href := load_ref (s := s) (by omega)
  ((conv => whnf); (repeat ((first | refine VrN.keep ?_ | refine BoxN.own ?_ | refine RwN.own ?_); (conv => whnf))))
  refine SpecF.call (read_c s (by omega)) (fun w _ q hq => by cases hq) fun v G hR => ?_
  obtain ⟨rb, p, rfl, ok, hG⟩ := hR
  generalize readM s = st at href ok hG ⊢
  cases hl : loadS s with
  | error e =>
   obtain ⟨h1, h2⟩ := href.2 e hl
   refine wX ?_
   rw [h1]
   refine brd_ne (fun _ => ?_) (fun h => absurd h h2)
   refine wX ?_
   exact fin_v rfl
  | ok r =>
   obtain ⟨h1, h2, h3⟩ := href.1 r hl
   obtain ⟨g, ss⟩ := r
   have h3 : st.ss = ss := h3
   subst h3
   refine wX ?_
   rw [h1]
   refine wX ?_
   refine LdN.one (a := some ⟨rb, 0, none⟩) (q := 3) (.slice p.sa st.ss.length p.sc) rfl (fun w hw => (hG w hw.2.1).1) rfl ?_
   refine wX ?_
   exact fin_p (fun w => SlAt p.sa (st.ss.length * 1) (strC st.ss) w) ⟨_, rfl, p.sa, p.sc, rfl, ok.sa, fun w hw => hw⟩ (fun w hw => (hG w hw.2.1).2.2.2)
end Go.Proofs.YtgogonnnojcioaaGreatDoor
namespace Go.Marshal
open Go.Core
theorem load_tel {s : B} (hs : s.length ≤ 20000) : ((headM headB ⟨s, [], [], [], 0⟩).e ≠ 0 → loadS s = .error (headM headB ⟨s, [], [], [], 0⟩).e) ∧
  ((headM headB ⟨s, [], [], [], 0⟩).e = 0 → ∀ (v : Int) (st : PS), Tel (formD (s.length + 1) (toS (headM headB ⟨s, [], [], [], 0⟩))) v st →
   (st.e ≠ 0 → loadS s = .error st.e) ∧ (st.e = 0 → st.s ≠ [] → loadS s = .error 4) ∧ (st.e = 0 → st.s = [] → (ValidP st.g → loadS s = .ok (st.g, st.ss)) ∧ (¬ ValidP st.g → loadS s = .error 1))) := by
 have hh := head_ref headB ⟨s, [], [], [], 0⟩ rfl
 unfold loadS
 rw [if_neg (by omega)]
 cases hr : headF headB s with
 | error e1 =>
  obtain ⟨h1, h2⟩ := hh.2 e1 hr
  exact ⟨fun _ => by rw [h1], fun h => absurd (h1.symm.trans h) h2⟩
 | ok r =>
  have h1 := hh.1 r hr
  rw [h1]
  have hl : r.length ≤ s.length := by rw [head_ok _ _ _ hr, List.length_append]; omega
  refine ⟨fun h => absurd rfl h, fun _ v st tel => ?_⟩
  have hst : formF (r.length + 1) ⟨r, [], [], []⟩ = formF (s.length + 1) ⟨r, [], [], []⟩ := form_stab _ _ _ (Nat.lt_succ_self _) (by show r.length < _; omega)
  have tel : Tel (formF (s.length + 1) ⟨r, [], [], []⟩) v st := by rw [← formD_eq]; exact tel
  simp only
  rw [hst]
  refine ⟨fun h => ?_, fun h hn => ?_, fun h hn => ?_⟩
  ·rw [tel.dead h]
  ·rw [tel.live h]
   have : (toS st).s ≠ [] := hn
   simp only
   rw [if_pos this]
  ·rw [tel.live h]
   have : (toS st).s = [] := hn
   simp only
   rw [if_neg (fun h => h this)]
   refine ⟨fun hv => ?_, fun hv => ?_⟩
   ·rw [if_pos (show ValidP (toS st).g from hv)]
    rfl
   ·rw [if_neg (show ¬ ValidP (toS st).g from hv)]
theorem loadS_err {s : B} {e : Int} (h : loadS s = .error e) : e ≠ 0 := by
 by_cases hs : s.length ≤ 20000
 ·exact ((load_ref hs).2 e h).2
 ·unfold loadS at h
  rw [if_pos (by omega)] at h
  cases h
  decide
end Go.Marshal
namespace Go.Proofs.YtgogonnnojcioaaGreatDoor
open Go.AX Go.RowKit Go.Core Go.Marshal
set_option maxRecDepth 20000
def RdD (S : List UInt8) (v : Value) (G : World → Prop) : Prop := ∃ (rb : Nat) (st : PS) (p : RdP), v = .tuple #[.pointer (some ⟨rb, 0, none⟩), .int .i64 (errS (loadS S))] ∧ OkD st p ∧ (∀ q ∈ p.m, CellOk q) ∧ (∀ r, loadS S = .ok r → st.g = r.1 ∧ st.ss = r.2) ∧ ∀ w, G w → SlAt (some ⟨rb, 0, none⟩) 6 (ddC S st p) w ∧ SlAt p.ga (p.m.length * 5) (grC p.m) w ∧ (∀ q ∈ p.m, CellF q w) ∧ SlAt p.sa (st.ss.length * 1) (strC st.ss) w
theorem okd0 (S : List UInt8) : OkD ⟨S, [], [], [], 0⟩ P0 := ⟨rfl, fun _ => rfl, fun _ => rfl, fun _ => rfl, (fun t ht => by cases ht), .inl rfl⟩
theorem ddC0 (S : List UInt8) : ddC S ⟨S, [], [], [], 0⟩ P0 = [.string (bs S), .int .i64 0, .slice none 0 0, .slice none 0 0, .slice none 0 0, .int .i64 0] := by
 unfold ddC
 simp only [Nat.sub_self]
 rfl
set_option maxHeartbeats 4000000 in
theorem read_d (S : List UInt8) : SpecF Tryz.prog 61 [.string (bs S)] (fun w => ∀ q ∈ ([] : List CellP), CellF q w) (RdD S) := by
 refine specF_of ?_
 refine SpecH.pad [.app 87 5 [] none 0 0, .app 3 1 [] none 0 0, .app 9 1 [] none 0 0] rfl ?_
 refine spec_of_exec hm Tryz.func61 (by kernel_rfl) rfl rfl ?_
 have hsz := bs_size S
 refine wXB ?_
 refine BoxN.known [.string (bs S), .int .i64 0, .slice none 0 0, .slice none 0 0, .slice none 0 0, .int .i64 0] rfl fun rb => ?_
 rw [← ddC0 S]
 refine wXK ?_
 refine brd_dec (fun hlong => ?_) (fun hS => ?_)
 ·have hl : loadS S = .error 2 := by unfold loadS; rw [if_pos (by rw [hsz] at hlong; omega)]
  refine wXK ?_
  refine fin_p (fun w => SlAt (some ⟨rb, 0, none⟩) 6 (ddC S ((⟨S, [], [], [], 0⟩ : PS)) (P0)) w ∧ SlAt (P0).ga ((P0).m.length * 5) (grC (P0).m) w ∧ (∀ q ∈ (P0).m, CellF q w) ∧ SlAt (P0).sa (((⟨S, [], [], [], 0⟩ : PS)).ss.length * 1) (strC ((⟨S, [], [], [], 0⟩ : PS)).ss) w) ⟨rb, (⟨S, [], [], [], 0⟩ : PS), P0, ?_, okd0 S, ?_, ?_, fun w hw => hw⟩ (fun w hw => ⟨hw.2.2.2.2.1, hw.2.1, hw.1, hw.2.2.2.1⟩)
  ·rw [hl]; rfl
  ·intro q hq; cases hq
  ·intro r h; rw [hl] at h; cases h
 have hS : S.length ≤ 20000 := by rw [hsz] at hS; omega
 obtain ⟨S0, hS0⟩ : ∃ S0, headM headB ⟨S, [], [], [], 0⟩ = S0 := ⟨_, rfl⟩
 obtain ⟨t1, t2⟩ := load_tel hS
 rw [hS0] at t1 t2
 have bd0 : Bd ⟨S, [], [], [], 0⟩ := ⟨Nat.zero_le _, Nat.le_refl _, by show 0 + S.length ≤ _; omega⟩
 refine wXK ?_
 refine LoopN.intro (Nat × PS) (fun ⟨i, st⟩ => i ≤ 3 ∧ headM (headB.drop i) st = S0 ∧ OkD st P0 ∧ Left S st ∧ Le 0 ⟨S, [], [], [], 0⟩ st)
  (fun ⟨i, _⟩ => mkS Tryz.f61.ntmps 0 [(0, .c (.v (.string (bs S)))), (4, .c (.v (.pointer (some ⟨rb, 0, none⟩)))), (5, .c (.v (.string ⟨#[67, 77, 1]⟩))), (6, .c (.v (.int .i64 (i : Int))))])
  (fun ⟨_, st⟩ => [.fact fun w => ∀ q ∈ ([] : List CellP), CellF q w, .app 87 5 [] none 0 0, .app 3 1 (iC st.cells) none st.cells.length 0, .app 9 1 (strC st.ss) none st.ss.length 0, .app 109 6 (ddC S st P0) (some ⟨rb, 0, none⟩) 1 1]) (fun ⟨i, _⟩ => 3 - i) [] rfl
  (fun _ => rfl) (fun _ => rfl) (fun _ _ => okHB_eq rfl) ⟨(0, ⟨S, [], [], [], 0⟩), ⟨by omega, hS0, okd0 S, ⟨[], rfl⟩, Le.refl _⟩, ?_, ?_⟩ ?_
 ·exact wKK
 ·exact ⟨wkE_refl _, wkE_refl _, wkE_refl _, wkE_refl _, wkE_refl _, wkH_nil _⟩
 rintro ⟨i, st⟩ ⟨h1, h2, h3, hl, h4⟩
 have hd3 : ((⟨#[67, 77, 1]⟩ : ByteArray).size : Int) = 3 := rfl
 refine wXK ?_
 refine brd_dec (fun hi => ?_) (fun hi => ?_)
 ·obtain ⟨c, hc⟩ : ∃ c, headB[i]? = some c := ⟨_, List.getElem?_eq_getElem (by show i < 3; omega)⟩
  have hd : headB.drop i = c :: headB.drop (i + 1) := by
   obtain ⟨h5, h6⟩ := List.getElem?_eq_some_iff.1 hc
   rw [← h6, List.getElem_cons_drop]
  rw [hd] at h2
  have h2 : headM (headB.drop (i + 1)) (if (nextM st).1 ≠ c then failM (nextM st).2 4 else (nextM st).2) = S0 := h2
  have hcv : byteAt ⟨#[67, 77, 1]⟩ i = (c.toNat : Int) := by
   rcases i with _ | _ | _ | i
   ·cases hc; rfl
   ·cases hc; rfl
   ·cases hc; rfl
   ·cases hc
  have hnx := next_d rb S (by omega) st P0 [] hl
  have hln := h4.trans (next_le st)
  have okn := h3.same (next_keep st)
  have hll := hl.next
  generalize nextM st = r at h2 hnx hln okn hll
  obtain ⟨x, st2⟩ := r
  simp only at h2 hnx hln okn hll
  refine wXK ?_
  refine callG (hnx) [4, 1, 0, 2, 3] rfl ⟨rfl, rfl, rfl, rfl, rfl, trivial⟩ rfl fun _ _ => ?_
  refine wXK ?_
  refine LdN.one (a := some ⟨rb, 0, none⟩) (q := 5) (.int .i64 st2.e) rfl (fun w hw => hw.2.2.2.2.1) rfl ?_
  refine wXK ?_
  by_cases he : st2.e = 0
  ·rw [show (st2.e == 0) = true by rw [he]; rfl]
   refine wXK ?_
   rw [Int.toNat_natCast, hcv]
   refine brd_ne (fun h7 => ?_) (fun h7 => ?_)
   ·have hxc : x ≠ c := fun h => h7 (by rw [h])
    rw [if_pos hxc] at h2
    refine wXK ?_
    refine callG (fail_d rb S st2 P0 [] 4) [4, 1, 0, 2, 3] rfl ⟨rfl, rfl, rfl, rfl, rfl, trivial⟩ rfl fun _ _ => ?_
    refine wXK ?_
    refine ⟨(i + 1, failM st2 4), ⟨by omega, h2, okn.same (fail_ss st2 4), hll.fail 4, hln.trans (fail_le st2 4)⟩, by show 3 - (i + 1) < 3 - i; omega, ?_, wkE_refl _, wkE_refl _, wkE_refl _, wkE_refl _, wkE_refl _, wkH_nil _⟩
    exact wKK
   ·have hxc : x = c := UInt8.toNat_inj.1 (by omega)
    rw [if_neg (fun h => h hxc)] at h2
    refine wXK ?_
    refine ⟨(i + 1, st2), ⟨by omega, h2, okn, hll, hln⟩, by show 3 - (i + 1) < 3 - i; omega, ?_, wkE_refl _, wkE_refl _, wkE_refl _, wkE_refl _, wkE_refl _, wkH_nil _⟩
    exact wKK
  ·rw [show (st2.e == 0) = false by simpa using he]
   have h2 : headM (headB.drop (i + 1)) st2 = S0 := by
    rw [← h2]
    split
    ·rw [fail_dead he]
    ·rfl
   refine wXK ?_
   refine ⟨(i + 1, st2), ⟨by omega, h2, okn, hll, hln⟩, by show 3 - (i + 1) < 3 - i; omega, ?_, wkE_refl _, wkE_refl _, wkE_refl _, wkE_refl _, wkE_refl _, wkH_nil _⟩
   exact wKK
 ·obtain rfl : i = 3 := by rw [hd3] at hi; omega
  have h2 : st = S0 := h2
  subst h2
  have hs4 : st.s.length ≤ S.length := h4.s
  have bd4 := bd0.le h4
  refine wXK ?_
  refine LdN.one (a := some ⟨rb, 0, none⟩) (q := 5) (.int .i64 st.e) rfl (fun w hw => hw.2.2.2.2.1) rfl ?_
  refine wXK ?_
  by_cases he : st.e = 0
  ·rw [show (st.e == 0) = true by rw [he]; rfl]
   refine wXK ?_
   refine callG (form_d (S.length + 1) rb S st P0 [] hS h3 bd4 hl he (by omega)) [4, 1, 0, 2, 3] rfl ⟨rfl, rfl, rfl, rfl, rfl, trivial⟩ rfl fun d hd => ?_
   obtain ⟨dv, ds, dp, dn⟩ := d
   obtain ⟨ok8, hm8, hc8, hl8, le8, lt8, tel8⟩ := hd
   simp only at ok8 hm8 hc8 hl8 le8 lt8 tel8
   obtain ⟨u1, u2, u3⟩ := t2 he dv ds tel8
   have hdn : dp.m = dn := by rw [hm8]; rfl
   subst hdn
   have hll8 := left_len hl8
   refine wXK ?_
   refine LdN.one (a := some ⟨rb, 0, none⟩) (q := 5) (.int .i64 ds.e) rfl (fun w hw => hw.2.2.2.2.1) rfl ?_
   refine wXK ?_
   by_cases he8 : ds.e = 0
   ·rw [show (ds.e == 0) = true by rw [he8]; rfl]
    refine wXK ?_
    refine LdN.one (a := some ⟨rb, 0, none⟩) (q := 1) (.int .i64 ((S.length - ds.s.length : Nat) : Int)) rfl (fun w hw => hw.2.2.2.2.1) rfl ?_
    refine wXK ?_
    refine brd_dec (fun hat => ?_) (fun hat => ?_)
    ·have hne : ds.s ≠ [] := fun h => by rw [hsz, h, List.length_nil, Nat.sub_zero] at hat; exact absurd hat (Int.lt_irrefl _)
     have hl0 := u2 he8 hne
     have he4 : (failM ds 4).e = 4 := fail_e he8 4
     refine wXK ?_
     refine callG (fail_d rb S ds dp ([] ++ dp.m) 4) [4, 1, 0, 2, 3] rfl ⟨rfl, rfl, rfl, rfl, rfl, trivial⟩ rfl fun _ _ => ?_
     refine wXK ?_
     refine LdN.one (a := some ⟨rb, 0, none⟩) (q := 5) (.int .i64 (failM ds 4).e) rfl (fun w hw => hw.2.2.2.2.1) rfl ?_
     refine wXK ?_
     rw [show ((failM ds 4).e == 0) = false by rw [he4]; rfl]
     refine wXK ?_
     refine LdN.one (a := some ⟨rb, 0, none⟩) (q := 5) (.int .i64 (failM ds 4).e) rfl (fun w hw => hw.2.2.2.2.1) rfl ?_
     refine wXK ?_
     refine fin_p (fun w => SlAt (some ⟨rb, 0, none⟩) 6 (ddC S (failM ds 4) (dp)) w ∧ SlAt (dp).ga ((dp).m.length * 5) (grC (dp).m) w ∧ (∀ q ∈ (dp).m, CellF q w) ∧ SlAt (dp).sa ((failM ds 4).ss.length * 1) (strC (failM ds 4).ss) w) ⟨rb, failM ds 4, dp, ?_, ok8.same (fail_ss ds 4), ?_, ?_, fun w hw => hw⟩ (fun w hw => ⟨hw.2.2.2.2.1, hw.2.1, hw.1, hw.2.2.2.1⟩)
     ·rw [hl0, he4]; rfl
     ·exact hc8
     ·intro r h; rw [hl0] at h; cases h
    ·have hnil : ds.s = [] := List.eq_nil_of_length_eq_zero (by rw [hsz] at hat; omega)
     obtain ⟨v1, v2⟩ := u3 he8 hnil
     have hgb : dp.m.length ≤ 500 := by
      have := (bd4.le le8).g
      rw [← ok8.g, List.length_map] at this
      exact this
     obtain ⟨b, hb, hvc⟩ := Valid_b dp.ga dp.gc dp.m ok8.ga (by omega) hc8
     rw [ok8.g] at hb
     refine wXK ?_
     refine LdN.one (a := some ⟨rb, 0, none⟩) (q := 5) (.int .i64 ds.e) rfl (fun w hw => hw.2.2.2.2.1) rfl ?_
     refine wXK ?_
     rw [show (ds.e == 0) = true by rw [he8]; rfl]
     refine wXK ?_
     refine LdN.one (a := some ⟨rb, 0, none⟩) (q := 2) (.slice dp.ga dp.m.length dp.gc) rfl (fun w hw => hw.2.2.2.2.1) rfl ?_
     refine wXK ?_
     refine call1 (hvc _ (fun w hw => ⟨hw.2.1, hw.1⟩)) ?_
     cases b with
     | true =>
      have hl0 := v1 (hb.1 rfl)
      refine wXK ?_
      refine LdN.one (a := some ⟨rb, 0, none⟩) (q := 5) (.int .i64 ds.e) rfl (fun w hw => hw.2.2.2.2.1) rfl ?_
      refine wXK ?_
      refine fin_p (fun w => SlAt (some ⟨rb, 0, none⟩) 6 (ddC S (ds) (dp)) w ∧ SlAt (dp).ga ((dp).m.length * 5) (grC (dp).m) w ∧ (∀ q ∈ (dp).m, CellF q w) ∧ SlAt (dp).sa ((ds).ss.length * 1) (strC (ds).ss) w) ⟨rb, ds, dp, ?_, ok8, ?_, ?_, fun w hw => hw⟩ (fun w hw => ⟨hw.2.2.2.2.1, hw.2.1, hw.1, hw.2.2.2.1⟩)
      ·rw [hl0, he8]; rfl
      ·exact hc8
      ·intro r h; rw [hl0] at h; cases h; exact ⟨rfl, rfl⟩
     | false =>
      have hl0 := v2 (fun h => by have := hb.2 h; cases this)
      have he1 : (failM ds 1).e = 1 := fail_e he8 1
      refine wXK ?_
      refine callG (fail_d rb S ds dp ([] ++ dp.m) 1) [4, 1, 0, 2, 3] rfl ⟨rfl, rfl, rfl, rfl, rfl, trivial⟩ rfl fun _ _ => ?_
      refine wXK ?_
      refine LdN.one (a := some ⟨rb, 0, none⟩) (q := 5) (.int .i64 (failM ds 1).e) rfl (fun w hw => hw.2.2.2.2.1) rfl ?_
      refine wXK ?_
      refine fin_p (fun w => SlAt (some ⟨rb, 0, none⟩) 6 (ddC S (failM ds 1) (dp)) w ∧ SlAt (dp).ga ((dp).m.length * 5) (grC (dp).m) w ∧ (∀ q ∈ (dp).m, CellF q w) ∧ SlAt (dp).sa ((failM ds 1).ss.length * 1) (strC (failM ds 1).ss) w) ⟨rb, failM ds 1, dp, ?_, ok8.same (fail_ss ds 1), ?_, ?_, fun w hw => hw⟩ (fun w hw => ⟨hw.2.2.2.2.1, hw.2.1, hw.1, hw.2.2.2.1⟩)
      ·rw [hl0, he1]; rfl
      ·exact hc8
      ·intro r h; rw [hl0] at h; cases h
   ·rw [show (ds.e == 0) = false by simpa using he8]
    refine wXK ?_
    refine LdN.one (a := some ⟨rb, 0, none⟩) (q := 5) (.int .i64 ds.e) rfl (fun w hw => hw.2.2.2.2.1) rfl ?_
    refine wXK ?_
    rw [show (ds.e == 0) = false by simpa using he8]
    refine wXK ?_
    refine LdN.one (a := some ⟨rb, 0, none⟩) (q := 5) (.int .i64 ds.e) rfl (fun w hw => hw.2.2.2.2.1) rfl ?_
    refine wXK ?_
    have hl0 := u1 he8
    refine fin_p (fun w => SlAt (some ⟨rb, 0, none⟩) 6 (ddC S (ds) (dp)) w ∧ SlAt (dp).ga ((dp).m.length * 5) (grC (dp).m) w ∧ (∀ q ∈ (dp).m, CellF q w) ∧ SlAt (dp).sa ((ds).ss.length * 1) (strC (ds).ss) w) ⟨rb, ds, dp, ?_, ok8, ?_, ?_, fun w hw => hw⟩ (fun w hw => ⟨hw.2.2.2.2.1, hw.2.1, hw.1, hw.2.2.2.1⟩)
    ·rw [hl0]; rfl
    ·exact hc8
    ·intro r h; rw [hl0] at h; cases h
  ·rw [show (st.e == 0) = false by simpa using he]
   refine wXK ?_
   refine LdN.one (a := some ⟨rb, 0, none⟩) (q := 5) (.int .i64 st.e) rfl (fun w hw => hw.2.2.2.2.1) rfl ?_
   refine wXK ?_
   rw [show (st.e == 0) = false by simpa using he]
   refine wXK ?_
   refine LdN.one (a := some ⟨rb, 0, none⟩) (q := 5) (.int .i64 st.e) rfl (fun w hw => hw.2.2.2.2.1) rfl ?_
   refine wXK ?_
   rw [show (st.e == 0) = false by simpa using he]
   refine wXK ?_
   refine LdN.one (a := some ⟨rb, 0, none⟩) (q := 5) (.int .i64 st.e) rfl (fun w hw => hw.2.2.2.2.1) rfl ?_
   refine wXK ?_
   have hl0 := t1 he
   refine fin_p (fun w => SlAt (some ⟨rb, 0, none⟩) 6 (ddC S (st) (P0)) w ∧ SlAt (P0).ga ((P0).m.length * 5) (grC (P0).m) w ∧ (∀ q ∈ (P0).m, CellF q w) ∧ SlAt (P0).sa ((st).ss.length * 1) (strC (st).ss) w) ⟨rb, st, P0, ?_, h3, ?_, ?_, fun w hw => hw⟩ (fun w hw => ⟨hw.2.2.2.2.1, hw.2.1, hw.1, hw.2.2.2.1⟩)
   ·rw [hl0]; rfl
   ·intro q hq; cases hq
   ·intro r h; rw [hl0] at h; cases h
theorem RLoad_c (S : List UInt8) : SpecF Tryz.prog 37 [.string (bs S)] (fun _ => True) (LoadR (loadS S)) := by
 refine specF hm Tryz.func37 (by kernel_rfl) rfl rfl ?_
 ((conv => whnf); (repeat ((first | refine VrN.keep ?_ | refine BoxN.own ?_ | refine RwN.own ?_); (conv => whnf))))
 refine SpecF.call (read_d S) (fun w _ q hq => by cases hq) fun v G hR => ?_
 obtain ⟨rb, st, p, rfl, ok, hcl, hok, hG⟩ := hR
 cases hl : loadS S with
 | error e =>
  have he : e ≠ 0 := loadS_err hl
  refine wX ?_
  refine brd_ne (fun _ => ?_) (fun h => absurd h he)
  refine wX ?_
  exact fin_v rfl
 | ok r =>
  obtain ⟨g, ss⟩ := r
  obtain ⟨h1, h2⟩ := hok _ hl
  refine wX ?_
  refine LdN.one (a := some ⟨rb, 0, none⟩) (q := 2) (.slice p.ga p.m.length p.gc) rfl (fun w hw => (hG w hw.2.1).1) rfl ?_
  refine wX ?_
  exact fin_p (fun w => GrF p.ga p.m w) ⟨_, rfl, p.ga, p.gc, p.m, rfl, ok.g.trans h1, ok.ga, hcl, fun w hw => hw⟩ (fun w hw => ⟨(hG w hw.2.1).2.1, (hG w hw.2.1).2.2.1⟩)
theorem RSymbols_c (S : List UInt8) : SpecF Tryz.prog 39 [.string (bs S)] (fun _ => True) (SymsR (loadS S)) := by
 refine specF hm Tryz.func39 (by kernel_rfl) rfl rfl ?_
 ((conv => whnf); (repeat ((first | refine VrN.keep ?_ | refine BoxN.own ?_ | refine RwN.own ?_); (conv => whnf))))
 refine SpecF.call (read_d S) (fun w _ q hq => by cases hq) fun v G hR => ?_
 obtain ⟨rb, st, p, rfl, ok, hcl, hok, hG⟩ := hR
 cases hl : loadS S with
 | error e =>
  have he : e ≠ 0 := loadS_err hl
  refine wX ?_
  refine brd_ne (fun _ => ?_) (fun h => absurd h he)
  refine wX ?_
  exact fin_v rfl
 | ok r =>
  obtain ⟨g, ss⟩ := r
  obtain ⟨h1, h2⟩ := hok _ hl
  have h2 : st.ss = ss := h2
  subst h2
  refine wX ?_
  refine LdN.one (a := some ⟨rb, 0, none⟩) (q := 4) (.slice p.sa st.ss.length p.sc) rfl (fun w hw => (hG w hw.2.1).1) rfl ?_
  refine wX ?_
  exact fin_p (fun w => SlAt p.sa (st.ss.length * 1) (strC st.ss) w) ⟨_, rfl, p.sa, p.sc, rfl, ok.sa, fun w hw => hw⟩ (fun w hw => (hG w hw.2.1).2.2.2)
end Go.Proofs.YtgogonnnojcioaaGreatDoor
namespace Go.Proofs.YtgogonnnojcioaaGreatDoor
open Go.AX Go.RowKit Go.Core
set_option maxRecDepth 20000
end Go.Proofs.YtgogonnnojcioaaGreatDoor
namespace Go.AX
end Go.AX
namespace Go.Core
theorem set_same {α : Type} {l : List α} {k : Nat} {x : α} (h : l[k]? = some x) : l.set k x = l := by
 obtain ⟨hk, rfl⟩ := List.getElem?_eq_some_iff.1 h
 exact List.set_getElem_self hk
end Go.Core
namespace Go.Proofs.YtgogonnnojcioaaGreatDoor
open Go.AX Go.RowKit Go.Core
set_option maxRecDepth 20000
end Go.Proofs.YtgogonnnojcioaaGreatDoor
namespace Go.Proofs.YtgogonnnojcioaaGreatDoor
open Go.AX Go.RowKit Go.Core
set_option maxRecDepth 20000
end Go.Proofs.YtgogonnnojcioaaGreatDoor
namespace Go.Core
end Go.Core
namespace Go.Proofs.YtgogonnnojcioaaGreatDoor
open Go.AX Go.RowKit Go.Core
set_option maxRecDepth 20000
end Go.Proofs.YtgogonnnojcioaaGreatDoor
namespace Go.Core
def KnD (g : List Cell) (S : List Int) : Prop := S.length = g.length ∧ ∀ (j : Nat) (v : Int), S[j]? = some v → v = 0 ∨ (v = (dep g (j : Int) : Int) ∧ 0 < v)
theorem KnD.none (g : List Cell) : KnD g (List.replicate g.length 0) := ⟨by simp, fun j v h => by
 rw [List.getElem?_replicate] at h
 split at h
 ·exact .inl (Option.some.inj h).symm
 ·cases h⟩
theorem KnD.put {g : List Cell} {S : List Int} (h : KnD g S) {i : Nat} (hp : 0 < dep g (i : Int)) : KnD g (S.set i (dep g (i : Int) : Int)) := by
 refine ⟨by rw [List.length_set, h.1], fun j v hj => ?_⟩
 by_cases e : i = j
 ·subst e
  rw [List.getElem?_set] at hj
  simp only [if_true] at hj
  split at hj
  ·cases hj; exact .inr ⟨rfl, by omega⟩
  ·cases hj
 ·rw [List.getElem?_set_ne e] at hj
  exact h.2 j v hj
end Go.Core
namespace Go.Proofs.YtgogonnnojcioaaGreatDoor
open Go.AX Go.RowKit Go.Core
set_option maxRecDepth 20000
end Go.Proofs.YtgogonnnojcioaaGreatDoor
namespace Go.Proofs.YtgogonnnojcioaaGreatDoor
open Go.AX Go.RowKit Go.Core
set_option maxRecDepth 20000
theorem take_next {α : Type} {l m : List α} {i : Nat} {x y : α} (h : l.take i = m.take i) (hx : l[i]? = some x) (hy : m[i]? = some y) (e : x = y) : l.take (i + 1) = m.take (i + 1) := by
 rw [List.take_add_one, List.take_add_one, h, hx, hy, e]
end Go.Proofs.YtgogonnnojcioaaGreatDoor
namespace Go.Core
def cellE (x y : Cell) : Bool := x.kind == y.kind && x.num == y.num && x.text == y.text && decide (x.names = y.names) && decide (x.items = y.items)
theorem cellE_iff {x y : Cell} : cellE x y = true ↔ x = y := by
 unfold cellE
 simp only [Bool.and_eq_true, beq_iff_eq, decide_eq_true_eq]
 constructor
 ·intro ⟨⟨⟨⟨h1, h2⟩, h3⟩, h4⟩, h5⟩
  cases x; cases y
  simp only at h1 h2 h3 h4 h5
  subst h1 h2 h3 h4 h5
  rfl
 ·intro h
  subst h
  exact ⟨⟨⟨⟨rfl, rfl⟩, rfl⟩, rfl⟩, rfl⟩
end Go.Core
namespace Go.Proofs.YtgogonnnojcioaaGreatDoor
open Go.AX Go.RowKit Go.Core
set_option maxRecDepth 20000
theorem bool_no {r : Bool} {P : Prop} (hr : r = true ↔ P) (h : ¬ P) : false = r := by
 cases r with
 | false => rfl
 | true => exact absurd (hr.1 rfl) h
end Go.Proofs.YtgogonnnojcioaaGreatDoor
namespace Go.Core
end Go.Core
namespace Go.Core
open Go.Proofs.YtgogonnnojcioaaGreatDoor
end Go.Core
namespace Go.Proofs.YtgogonnnojcioaaGreatDoor
open Go.AX Go.RowKit Go.Core
set_option maxRecDepth 20000
end Go.Proofs.YtgogonnnojcioaaGreatDoor
namespace Go.Proofs.YtgogonnnojcioaaGreatDoor
open Go.AX Go.RowKit Go.Core
set_option maxRecDepth 20000
set_option maxHeartbeats 1000000 in
theorem Alike2_c (a b : Option Addr) (ca cb : Nat) (l m : List CellP) (ha : a = none → l = []) (hb : b = none → m = []) (hl : l.length ≤ 200000000000000) (hol : ∀ p ∈ l, CellOk p) (hom : ∀ p ∈ m, CellOk p) (r : Bool) (hr : r = true ↔ l.map (·.c) = m.map (·.c)) :
  ∀ H, (∀ w, Facts H w → GrF a l w ∧ GrF b m w) → SpecH Tryz.prog 27 (pvs [.slice a l.length ca, .slice b m.length cb]) H (Ret (.bool r) H) := by
 refine factC hm Tryz.func27 (by kernel_rfl) rfl rfl ?_
 refine wX ?_
 refine brd_ne (fun h0 => ?_) (fun h0 => ?_)
 ·refine wX ?_
  exact out_bool (bool_no hr fun e => h0 (by have := congrArg List.length e; simp only [List.length_map] at this; omega))
 have hlen : l.length = m.length := by omega
 refine wX ?_
 refine loopS Nat (fun i => i ≤ l.length ∧ (l.map (·.c)).take i = (m.map (·.c)).take i) (fun i => mkS Tryz.f27.ntmps 0 [(0, .c (.v (.slice a l.length ca))), (1, .c (.v (.slice b m.length cb))), (5, .c (.v (.int .i64 (i : Int))))]) (fun i => l.length - i) rfl (fun _ => rfl) 0 ⟨Nat.zero_le _, rfl⟩ ?_ ?_
 ·exact wKK
 intro i ⟨hi, he⟩
 refine wX ?_
 refine brd_dec (fun h1 => ?_) (fun h1 => ?_)
 ·obtain ⟨p, hp⟩ : ∃ p, l[i]? = some p := ⟨_, List.getElem?_eq_getElem (by omega)⟩
  obtain ⟨q, hq⟩ : ∃ q, m[i]? = some q := ⟨_, List.getElem?_eq_getElem (by omega)⟩
  have hpc : (l.map (·.c))[i]? = some p.c := by rw [List.getElem?_map, hp]; rfl
  have hqc : (m.map (·.c))[i]? = some q.c := by rw [List.getElem?_map, hq]; rfl
  have hno : p.c ≠ q.c → ¬ l.map (·.c) = m.map (·.c) := fun h e => h (by
   rw [e] at hpc
   exact Option.some.inj (hpc.symm.trans hqc))
  have hpo := hol p (List.mem_of_getElem? hp)
  have hqo := hom q (List.mem_of_getElem? hq)
  have hpm := List.mem_of_getElem? hp
  have hqm := List.mem_of_getElem? hq
  have hil := hpo.il
  have hsa : a.isSome = true := by
   cases a with
   | none => rw [ha rfl] at hp; cases hp
   | some b => rfl
  have hsb : b.isSome = true := by
   cases b with
   | none => rw [hb rfl] at hq; cases hq
   | some b => rfl
  refine wX ?_
  refine Nd.mk ⟨hsa, by omega, by omega⟩ ?_
  refine wX ?_
  refine LdN.agg (cellC p) rfl (fun w hw => hw.1.1.1) rfl (fun k hk => by rw [Int.toNat_natCast]; exact grC_get l i k hk hp) ?_
  refine wX ?_
  refine Nd.mk ⟨hsb, by omega, by omega⟩ ?_
  refine wX ?_
  refine LdN.agg (cellC q) rfl (fun w hw => hw.1.2.1) rfl (fun k hk => by rw [Int.toNat_natCast]; exact grC_get m i k hk hq) ?_
  refine wX ?_
  have hal := alike_c p q hpo hqo
  refine callQ (hal _ ?_) ?_
  ·intro w hw
   exact ⟨hw.1.1.2 p hpm, hw.1.2.2 q hqm⟩
  cases hab : alikeB p.c q.c with
  | false =>
   refine wX ?_
   exact out_bool (bool_no hr (hno fun e => by
    rw [e, alike_refl] at hab
    cases hab))
  | true =>
  have hal := alike_to hab
  have hil2 := hal.2.2.2.2
  refine wX ?_
  refine loopS Nat (fun k => k ≤ p.c.items.length ∧ p.c.items.take k = q.c.items.take k) (fun k => mkS Tryz.f27.ntmps 0 [(0, .c (.v (.slice a l.length ca))), (1, .c (.v (.slice b m.length cb))), (5, .c (.v (.int .i64 (i : Int)))), (6, .c (.v (.int .i64 (k : Int))))]) (fun k => p.c.items.length - k) rfl (fun _ => rfl) 0 ⟨Nat.zero_le _, rfl⟩ ?_ ?_
  ·exact wKK
  intro k ⟨hk, hke⟩
  refine wX ?_
  refine Nd.mk ⟨hsa, by omega, by omega⟩ ?_
  refine wX ?_
  refine LdN.fld (.slice p.ia p.c.items.length p.ic) rfl (fun w hw => hw.1.1.1) (by rw [Int.toNat_natCast]; exact grC_get l i 4 (by decide) hp) ?_
  refine wX ?_
  refine brd_dec (fun h2 => ?_) (fun h2 => ?_)
  ·obtain ⟨x, hx⟩ : ∃ x, p.c.items[k]? = some x := ⟨_, List.getElem?_eq_getElem (by omega)⟩
   obtain ⟨y, hx2⟩ : ∃ z, q.c.items[k]? = some z := ⟨_, List.getElem?_eq_getElem (by omega)⟩
   have hkq := (List.getElem?_eq_some_iff.1 hx2).1
   have hsi : p.ia.isSome = true := by
    cases hna : p.ia with
    | none => rw [hpo.ia hna] at hx; cases hx
    | some b => rfl
   have hsj : q.ia.isSome = true := by
    cases hna : q.ia with
    | none => rw [hqo.ia hna] at hx2; cases hx2
    | some b => rfl
   refine wX ?_
   refine Nd.mk ⟨hsa, by omega, by omega⟩ ?_
   refine wX ?_
   refine LdN.fld (.slice p.ia p.c.items.length p.ic) rfl (fun w hw => hw.1.1.1) (by rw [Int.toNat_natCast]; exact grC_get l i 4 (by decide) hp) ?_
   refine wX ?_
   refine Nd.mk ⟨hsi, by omega, by omega⟩ ?_
   refine wX ?_
   refine LdN.one (.int .i64 x) rfl (fun w hw => (hw.1.1.2 p hpm).2) (by rw [Int.toNat_natCast]; show (iC p.c.items)[k * 1]? = _; rw [Nat.mul_one]; exact iC_get hx) ?_
   refine wX ?_
   refine Nd.mk ⟨hsb, by omega, by omega⟩ ?_
   refine wX ?_
   refine LdN.fld (.slice q.ia q.c.items.length q.ic) rfl (fun w hw => hw.1.2.1) (by rw [Int.toNat_natCast]; exact grC_get m i 4 (by decide) hq) ?_
   refine wX ?_
   refine Nd.mk ⟨hsj, by omega, by omega⟩ ?_
   refine wX ?_
   refine LdN.one (.int .i64 y) rfl (fun w hw => (hw.1.2.2 q hqm).2) (by rw [Int.toNat_natCast]; show (iC q.c.items)[k * 1]? = _; rw [Nat.mul_one]; exact iC_get hx2) ?_
   refine wX ?_
   refine brd_ne (fun h => ?_) (fun h => ?_)
   ·refine wX ?_
    exact out_bool (bool_no hr (hno fun e => h (by
     rw [e] at hx
     exact Option.some.inj (hx.symm.trans hx2))))
   refine wX ?_
   refine ⟨k + 1, ⟨by omega, take_next hke hx hx2 h⟩, by omega, ?_, wHH⟩
   exact wKK
  ·obtain rfl : k = p.c.items.length := by omega
   rw [List.take_length, hil2, List.take_length] at hke
   have hpq : p.c = q.c := cellE_iff.1 (by
    unfold cellE
    rw [hal.1, hal.2.1, hal.2.2.1, hal.2.2.2.1, hke]
    simp)
   refine wX ?_
   refine ⟨i + 1, ⟨by omega, take_next he hpc hqc hpq⟩, by omega, ?_, wHH⟩
   exact wKK
 ·obtain rfl : i = l.length := by omega
  rw [List.take_of_length_le (by simp), List.take_of_length_le (by simp; omega)] at he
  refine wX ?_
  exact out_bool (hr.2 he).symm
end Go.Proofs.YtgogonnnojcioaaGreatDoor
namespace Go.Marshal
open Go.Core
theorem head_le : ∀ (hs : B) (st : PS), Le 0 st (headM hs st)
 | [], st => Le.refl st
 | h :: hs, st => by
  have h1 : Le 0 st (if (nextM st).1 ≠ h then failM (nextM st).2 4 else (nextM st).2) := by
   split
   ·exact (next_le st).trans (fail_le _ 4)
   ·exact next_le st
  exact h1.trans (head_le hs _)
theorem head_g : ∀ (hs : B) (st : PS), (headM hs st).g = st.g
 | [], st => rfl
 | h :: hs, st => by
  have h1 : (if (nextM st).1 ≠ h then failM (nextM st).2 4 else (nextM st).2).g = st.g := by
   split
   ·rw [fail_g, next_g]
   ·rw [next_g]
  show (headM hs _).g = _
  rw [head_g hs _, h1]
theorem load_wide {s : B} {g : List Cell} {ss : List B} (h : loadS s = .ok (g, ss)) : g.length ≤ 500 ∧ ss.length ≤ 30000 ∧ ∀ c ∈ g, c.names.length ≤ 30001 ∧ c.items.length ≤ 30001 := by
 by_cases hs : s.length ≤ 20000
 ·obtain ⟨_, h2, h3⟩ := (load_ref hs).1 _ h
  have h3 : (readM s).ss = ss := h3
  have h2 : (readM s).g = g := h2
  have b0 : Bd ⟨s, [], [], [], 0⟩ := ⟨Nat.zero_le _, Nat.le_refl _, by show 0 + s.length ≤ _; omega⟩
  have b1 := b0.le (head_le headB ⟨s, [], [], [], 0⟩)
  have b2 := b1.le ((cell_takes (s.length + 1)).le (headM headB ⟨s, [], [], [], 0⟩))
  have hw := cell_wd (s.length + 1) _ b1 (by unfold Wd; rw [head_g]; intro c hc; cases hc)
  have hg : (readM s).g = (cellM (s.length + 1) (headM headB ⟨s, [], [], [], 0⟩)).2.g := by
   unfold readM checkM endM
   split <;> split <;> first | rfl | exact fail_g _ _
  have hq : (readM s).ss = (cellM (s.length + 1) (headM headB ⟨s, [], [], [], 0⟩)).2.ss := by
   have hf : ∀ (a : PS) (e : Int), (failM a e).ss = a.ss := fun a e => by unfold failM; split <;> rfl
   unfold readM checkM endM
   split <;> split <;> first | rfl | exact hf _ _
  rw [← h2, ← h3, hg, hq]
  exact ⟨b2.g, by have := b2.pot; omega, hw⟩
 ·unfold loadS at h
  rw [if_pos (by omega)] at h
  cases h
def gR (R : Except Int (List Cell × List B)) : List Cell := match R with
 | .ok p => p.1
 | .error _ => []
def sR (R : Except Int (List Cell × List B)) : List B := match R with
 | .ok p => p.2
 | .error _ => []
end Go.Marshal
namespace Go.Proofs.YtgogonnnojcioaaGreatDoor
open Go.AX Go.RowKit Go.Core Go.Marshal
set_option maxRecDepth 20000
theorem LoadR.uni {R : Except Int (List Cell × List (List UInt8))} {v : Value} {G : World → Prop} (h : LoadR R v G) : ∃ (a : Option Addr) (c : Nat) (m : List CellP), v = .tuple #[.slice a m.length c, .int .i64 (errS R)] ∧ m.map (·.c) = gR R ∧ (a = none → m = []) ∧ (∀ q ∈ m, CellOk q) ∧ ∀ w, G w → GrF a m w := by
 cases R with
 | error e => exact ⟨none, 0, [], h, rfl, fun _ => rfl, (fun q hq => by cases hq), fun w _ => ⟨slAt_nil w, fun q hq => by cases hq⟩⟩
 | ok p =>
  obtain ⟨g, ss⟩ := p
  obtain ⟨v1, rfl, a, c, m, rfl, h2, h3, h4, h5⟩ := h
  exact ⟨a, c, m, rfl, h2, h3, h4, h5⟩
theorem SymsR.uni {R : Except Int (List Cell × List (List UInt8))} {v : Value} {G : World → Prop} (h : SymsR R v G) : ∃ (a : Option Addr) (c : Nat), v = .tuple #[.slice a (sR R).length c, .int .i64 (errS R)] ∧ (a = none → sR R = []) ∧ ∀ w, G w → SlAt a ((sR R).length * 1) (strC (sR R)) w := by
 cases R with
 | error e => exact ⟨none, 0, h, fun _ => rfl, fun w _ => slAt_nil w⟩
 | ok p =>
  obtain ⟨g, ss⟩ := p
  obtain ⟨v1, rfl, a, c, rfl, h2, h3⟩ := h
  exact ⟨a, c, rfl, h2, h3⟩
theorem same_l (a b : Option Addr) (ca cb : Nat) (l m : List (List UInt8)) (ha : a = none → l = []) (hb : b = none → m = []) (hl : l.length ≤ 1000000) (r : Bool) (hr : r = true ↔ l = m) :
  ∀ H, (∀ w, Facts H w → SlAt a (l.length * 1) (strC l) w ∧ SlAt b (m.length * 1) (strC m) w) → SpecH Tryz.prog 40 (pvs [.slice a l.length ca, .slice b m.length cb]) H (Ret (.bool r) H) := by
 refine factC hm Tryz.func40 (by kernel_rfl) rfl rfl ?_
 refine wX ?_
 refine brd_ne (fun h0 => ?_) (fun h0 => ?_)
 ·refine wX ?_
  exact out_bool (bool_no hr fun e => h0 (by rw [e]))
 have hlen : l.length = m.length := by omega
 refine wX ?_
 refine loopS Nat (fun i => i ≤ l.length ∧ l.take i = m.take i) (fun i => mkS Tryz.f40.ntmps 0 [(0, .c (.v (.slice a l.length ca))), (1, .c (.v (.slice b m.length cb))), (5, .c (.v (.int .i64 (i : Int))))]) (fun i => l.length - i) rfl (fun _ => rfl) 0 ⟨Nat.zero_le _, rfl⟩ ?_ ?_
 ·exact wKK
 intro i ⟨hi, he⟩
 refine wX ?_
 refine brd_dec (fun h1 => ?_) (fun h1 => ?_)
 ·obtain ⟨p, hp⟩ : ∃ p, l[i]? = some p := ⟨_, List.getElem?_eq_getElem (by omega)⟩
  obtain ⟨q, hq⟩ : ∃ q, m[i]? = some q := ⟨_, List.getElem?_eq_getElem (by omega)⟩
  have hsa : a.isSome = true := by
   cases a with
   | none => rw [ha rfl] at hp; cases hp
   | some b => rfl
  have hsb : b.isSome = true := by
   cases b with
   | none => rw [hb rfl] at hq; cases hq
   | some b => rfl
  refine wX ?_
  refine Nd.mk ⟨hsa, by omega, by omega⟩ ?_
  refine wX ?_
  refine LdN.one (.string (bs p)) rfl (fun w hw => hw.1.1) (by show (strC l)[Int.toNat _ * 1]? = _; rw [Int.toNat_natCast, Nat.mul_one]; exact strC_get hp) ?_
  refine wX ?_
  refine Nd.mk ⟨hsb, by omega, by omega⟩ ?_
  refine wX ?_
  refine LdN.one (.string (bs q)) rfl (fun w hw => hw.1.2) (by show (strC m)[Int.toNat _ * 1]? = _; rw [Int.toNat_natCast, Nat.mul_one]; exact strC_get hq) ?_
  refine wX ?_
  have hpq : ((bs p).data.toList == (bs q).data.toList) = (p == q) := by rw [bs_list, bs_list]
  rw [hpq]
  by_cases hc : p = q
  ·rw [show (p == q) = true by rw [hc]; simp]
   refine wX ?_
   refine ⟨i + 1, ⟨by omega, ?_⟩, by omega, ?_, wHH⟩
   ·rw [List.take_add_one, List.take_add_one, he, hp, hq, hc]
   ·exact wKK
  ·rw [show (p == q) = false by simpa using hc]
   refine wX ?_
   exact out_bool (bool_no hr fun e => hc (by rw [e, hq] at hp; exact (Option.some.inj hp).symm))
 ·have hie : i = l.length := by omega
  subst hie
  rw [List.take_length, hlen, List.take_length] at he
  refine wX ?_
  exact out_bool (hr.2 he).symm
theorem loads_c (s : List UInt8) : ∀ H, SpecH Tryz.prog 15 (pvs [.string (bs s)]) H (Ret (.bool true) H) := by
 refine pureC hm Tryz.func15 (by kernel_rfl) rfl rfl ?_
 ((conv => whnf); (repeat ((first | refine VrN.keep ?_ | refine BoxN.own ?_ | refine RwN.own ?_); (conv => whnf))))
 refine SpecF.call (Load_c s) (fun _ _ => trivial) fun v1 G1 hR1 => ?_
 obtain ⟨a1, c1, m1, rfl, hm1, ha1, hk1, hG1⟩ := hR1.uni
 refine wX ?_
 refine SpecF.call (RLoad_c s) (fun _ _ => trivial) fun v2 G2 hR2 => ?_
 obtain ⟨a2, c2, m2, rfl, hm2, ha2, hk2, hG2⟩ := hR2.uni
 refine wX ?_
 refine SpecF.call (Symbols_c s) (fun _ _ => trivial) fun v3 G3 hR3 => ?_
 obtain ⟨a3, c3, rfl, ha3, hG3⟩ := hR3.uni
 refine wX ?_
 refine SpecF.call (RSymbols_c s) (fun _ _ => trivial) fun v4 G4 hR4 => ?_
 obtain ⟨a4, c4, rfl, ha4, hG4⟩ := hR4.uni
 have hwide : m1.length ≤ 500 ∧ ∀ p ∈ m1, p.c.names.length ≤ 30001 ∧ p.c.items.length ≤ 30001 := by
  have h : (gR (loadS s)).length ≤ 500 ∧ ∀ c ∈ gR (loadS s), c.names.length ≤ 30001 ∧ c.items.length ≤ 30001 := by
   cases hl : loadS s with
   | error e => exact ⟨Nat.zero_le _, fun c hc => by cases hc⟩
   | ok p =>
    have h := load_wide (g := p.1) (ss := p.2) hl
    exact ⟨h.1, h.2.2⟩
  rw [← hm1, List.length_map] at h
  exact ⟨h.1, fun p hp => h.2 p.c (List.mem_map.2 ⟨p, hp, rfl⟩)⟩
 have hss : (sR (loadS s)).length ≤ 1000000 := by
  cases hl : loadS s with
  | error e => exact Nat.zero_le _
  | ok p =>
   have h := (load_wide (g := p.1) (ss := p.2) hl).2.1
   show p.2.length ≤ _
   omega
 refine wX ?_
 rw [show (errS (loadS s) == errS (loadS s)) = true by simp]
 refine wX ?_
 refine SpecF.call (as_m a1 c1 m1 ha1 ⟨by omega, fun p hp => by have := hwide.2 p hp; omega⟩ hk1) (fun w hw => hG1 w hw.1) fun v5 G5 hR5 => ?_
 obtain ⟨a5, c5, m5, rfl, ha5, hm5, hk5, hG5⟩ := hR5
 have hl5 : m5.length ≤ 500 := by
  have := congrArg List.length hm5
  simp only [List.length_map] at this
  omega
 refine wX ?_
 refine call1 (Alike2_c a5 a2 c5 c2 m5 m2 ha5 ha2 (by omega) hk5 hk2 true ⟨fun _ => by rw [hm5, hm1, hm2], fun _ => rfl⟩ _ (fun w hw => ⟨hG5 w hw.2.2.2.2.1, hG2 w hw.2.1⟩)) ?_
 refine wX ?_
 refine SpecF.call (MCheck_c s) (fun _ _ => trivial) fun v6 G6 hR6 => ?_
 obtain rfl := hR6
 refine wX ?_
 rw [show (errS (loadS s) == errS (loadS s)) = true by simp]
 refine wX ?_
 rw [show (errS (loadS s) == errS (loadS s)) = true by simp]
 refine wX ?_
 rw [show (errS (loadS s) == errS (loadS s)) = true by simp]
 refine wX ?_
 refine call1 (same_l a3 a4 c3 c4 (sR (loadS s)) (sR (loadS s)) ha3 ha4 hss true ⟨fun _ => rfl, fun _ => rfl⟩ _ (fun w hw => ⟨hG3 w hw.2.2.1, hG4 w hw.2.2.2.1⟩)) ?_
 exact wZ
end Go.Proofs.YtgogonnnojcioaaGreatDoor
namespace Go.Marshal
open Go.Core
end Go.Marshal
namespace Go.Proofs.YtgogonnnojcioaaGreatDoor
open Go.AX Go.RowKit Go.Core Go.Marshal
set_option maxRecDepth 20000
theorem tmod_n {X : Int} {n : Nat} (hX : 0 ≤ X ∧ X < 18446744073709551616) (hn : 0 < n) (h500 : n ≤ 20000) : ∃ k : Nat, k < n ∧ IntKind.i64.wrap (X.tmod (IntKind.u64.wrap (n : Int))) = (k : Int) := by
 have hwl : IntKind.u64.wrap (n : Int) = (n : Int) := wrap_u64 (by omega)
 rw [hwl, Int.tmod_eq_emod_of_nonneg hX.1]
 have h1 : 0 ≤ X % (n : Int) := Int.emod_nonneg _ (by omega)
 have h2 : X % (n : Int) < n := Int.emod_lt_of_pos _ (by omega)
 exact ⟨(X % (n : Int)).toNat, by omega, by rw [wrap_i64 (by omega)]; omega⟩
theorem u64_in (u : Int) : 0 ≤ IntKind.u64.wrap u ∧ IntKind.u64.wrap u < 18446744073709551616 := by rw [wrap_u64_eq]; omega
def bitsL : List (List UInt8) := [[48], [84], [70], [105, 0], [105, 1], [105, 127], [105, 129, 0], [105, 128, 0], [105, 131, 241, 174, 176, 231, 208, 0], [34, 0], [34, 2, 97, 98], [34, 5, 120], [58, 1, 97], [58, 2, 64, 98], [58, 1, 67], [58, 0], [59, 0], [59, 1], [59, 2], [91, 0], [91, 1], [91, 2], [91, 3], [123, 0], [123, 1], [123, 2], [111, 58, 1, 67, 0], [111, 59, 0, 1], [111, 58, 1, 68, 1, 58, 2, 64, 97], [111, 58, 1, 101, 0], [64, 0], [64, 1], [64, 2], [128], [255, 255, 255, 255, 255, 255, 255, 255, 255], [120]]
theorem bits_c : SpecF Tryz.prog 30 [] (fun _ => True) fun v G => ∃ b : Nat, v = .slice (some ⟨b, 0, none⟩) 36 36 ∧ ∀ w, G w → SlAt (some ⟨b, 0, none⟩) (36 * 1) (strC bitsL) w := by
 refine specF hm Tryz.func30 (by kernel_rfl) rfl rfl ?_
 refine wXR ?_
 refine RwN.known (strC bitsL) rfl fun rb => ?_
 refine wXR ?_
 refine fin_p (fun w => SlAt (some ⟨rb, 0, none⟩) (36 * 1) (strC bitsL) w) ⟨rb, rfl, fun w hw => hw⟩ (fun w hw => hw.2.1)
theorem bits_len : ∀ t ∈ bitsL, t.length ≤ 12 := by decide +kernel
theorem MarshalBits_c (a : Option Addr) (ca : Nat) (L : List Int) (ha : a = none → L = []) : ∀ H, (∀ w, Facts H w → SlAt a (L.length * 1) (iC L) w) → SpecH Tryz.prog 11 (pvs [.slice a L.length ca]) H (Ret (.bool true) H) := by
 refine factC hm Tryz.func11 (by kernel_rfl) rfl rfl ?_
 ((conv => whnf); (repeat ((first | refine VrN.keep ?_ | refine BoxN.own ?_ | refine RwN.own ?_); (conv => whnf))))
 refine SpecF.call bits_c (fun _ _ => trivial) fun v G hR => ?_
 obtain ⟨b, rfl, hG⟩ := hR
 refine wX ?_
 refine LoopN.intro (Nat × List UInt8) (fun ⟨i, s⟩ => i ≤ L.length ∧ i ≤ 60 ∧ s.length ≤ 3 + 12 * i)
  (fun ⟨i, s⟩ => mkS Tryz.f11.ntmps 0 [(0, .c (.v (.slice a L.length ca))), (3, .c (.v (.slice (some ⟨b, 0, none⟩) 36 36))), (4, .c (.v (.string (bs s)))), (5, .c (.v (.int .i64 (i : Int))))])
  (fun _ => [.fact (fun w => SlAt a (L.length * 1) (iC L) w), .fact G]) (fun ⟨i, _⟩ => L.length - i) [] rfl
  (fun _ => rfl) (fun _ => rfl) (fun _ _ => okHB_eq rfl) ⟨(0, [67, 77, 1]), ⟨Nat.zero_le _, Nat.zero_le _, Nat.le_refl _⟩, ?_, ?_⟩ ?_
 ·exact wKK
 ·exact wkH_refl _
 rintro ⟨i, s⟩ ⟨h1, h2, h3⟩
 have hfin : ∀ H, SpecH Tryz.prog 15 (pvs [.string (bs s)]) H (Ret (.bool true) H) := loads_c s
 refine wX ?_
 by_cases hi : i < L.length
 ·obtain ⟨x, hx⟩ : ∃ x, L[i]? = some x := ⟨_, List.getElem?_eq_getElem hi⟩
  have hsa : a.isSome = true := by
   cases h : a with
   | none => rw [ha h] at hx; cases hx
   | some b => rfl
  rw [show decide ((i : Int) < (L.length : Int)) = true by simpa using hi]
  refine wX ?_
  by_cases h60 : i < 60
  ·rw [show decide ((i : Int) < 60) = true by rw [decide_eq_true_iff]; omega]
   refine wX ?_
   refine Nd.mk ⟨hsa, by omega, by omega⟩ ?_
   refine wX ?_
   refine LdN.one (.int .i64 x) rfl (fun w hw => hw.1) (by show (iC L)[Int.toNat _ * 1]? = _; rw [Int.toNat_natCast, Nat.mul_one]; exact iC_get hx) ?_
   obtain ⟨k, hk, hkw⟩ := tmod_n (n := 36) (u64_in x) (by decide) (by decide)
   obtain ⟨t, ht⟩ : ∃ t, bitsL[k]? = some t := ⟨_, List.getElem?_eq_getElem (by show k < 36; exact hk)⟩
   have htl := bits_len t (List.mem_of_getElem? ht)
   refine wX ?_
   rw [hkw]
   refine Nd.mk ⟨rfl, by omega, by omega⟩ ?_
   refine wX ?_
   refine LdN.one (.string (bs t)) rfl (fun w hw => hG w hw.2.1) (by show (strC bitsL)[Int.toNat _ * 1]? = _; rw [Int.toNat_natCast, Nat.mul_one]; exact strC_get ht) ?_
   have hz1 := bs_size s
   have hz2 := bs_size t
   refine wX ?_
   try refine Nd.mk (by omega) ?_
   refine wX ?_
   refine ⟨(i + 1, s ++ t), ⟨by omega, by omega, by rw [List.length_append]; omega⟩, by show L.length - (i + 1) < L.length - i; omega, ?_, wkH_refl _⟩
   (repeat' (first | exact trivial | refine And.intro (by with_reducible rfl) ?_ | (with_reducible exact wkC_refl _) | (with_reducible exact wkCs_refl _) | refine And.intro ?_ ?_))
   all_goals first | rfl | exact av_int (by rw [wrap_i64 (by omega)]; omega) | rw [bs_app]
  ·rw [show decide ((i : Int) < 60) = false by rw [decide_eq_false_iff_not]; omega]
   refine wX ?_
   refine call1 (hfin _) ?_
   refine wX ?_
   refine call1 (sane_m _) ?_
   exact wZ
 ·rw [show decide ((i : Int) < (L.length : Int)) = false by simpa using hi]
  refine wX ?_
  refine call1 (hfin _) ?_
  refine wX ?_
  refine call1 (sane_m _) ?_
  exact wZ
end Go.Proofs.YtgogonnnojcioaaGreatDoor
namespace Go.Proofs.YtgogonnnojcioaaGreatDoor
open Go.ChangeShapes Go.WideShapes Go.ChangeAt Go.RowKit Go.AX Go.Core
set_option maxRecDepth 100000
namespace MarshalBits
theorem own : ownKnob Tryz.prog.godebug = none := own0
theorem walk {H : Type} {enc : TypeId × Value → H} (W : World) (base : Nat) (args : Array Value) (ds : List (DataW H)) (p : List MemPlace) (k : Known enc Tryz.prog Tryz.f11 W base args ds p) (_hL : laidMetH Tryz.prog laid3 W) : Walk Tryz.prog 11 args W := by
 obtain ⟨u, rfl⟩ := arr1 (trodAll_len k.trod).2
 obtain ⟨a, l, cap, rfl, ⟨_hq, ha, hs⟩, _, _⟩ := k.low.ints (e := 3) (i := .i64) 0 rfl rfl (by kernel_rfl) (by kernel_rfl) (by kernel_rfl) (by decide +kernel)
 have nil_of : ∀ {a : Option Addr} {l : List Int}, a.isSome = true ∨ l.length = 0 → a = none → l = [] := fun {a l} h e => by
  rcases h with h | h
  ·rw [e] at h; cases h
  ·exact List.eq_nil_of_length_eq_zero h
 exact walkH [.fact (SlAt a (l.length * 1) (iC l))] (fun _ he => ⟨_, List.mem_singleton.1 he, by rw [Nat.mul_one]; exact hs⟩) (MarshalBits_c a cap l (nil_of ha) _ fun w hw => hw.1)
theorem lifted (os : Os) (started : os.Started) (H : Type) (enc : TypeId × Value → H) :
  ReturnsInHanded {} Tryz.checked os 11 .any (fun w args => (Rows.marshalBitsSpec.pre enc Tryz.prog Tryz.f11 [] false w args ∧ laidMetH Tryz.prog laid3 w) ∧ sizedMet enc Tryz.prog Tryz.f11 (OpenSpec.ofChange Rows.marshalBitsSpec) false w args) (Rows.marshalBitsSpec.post enc Tryz.prog Tryz.f11 false true false false) := by
 refine liftS (C := Tryz.checked) own started (by kernel_rfl) Tryz.func11
  (ChangeSpec.witness_shaped (enc := enc) (C := Tryz.checked) (os := os) (X := fun w _ => laidMetH Tryz.prog laid3 w) false (World.laidAll Tryz.prog os laid3) #[.slice none 0 0] 8 (World.laidAll_os _ _ _) (World.shaped_of_ZipB (by kernel_rfl) (by kernel_rfl)) (by kernel_rfl) (by kernel_rfl) (by kernel_rfl) (door_met os _))
  laidOut rfl (t := _) rfl (by kernel_rfl) (by kernel_rfl) ?_ walk
 intro ds hd
 match ds, hd with
 | [d0], _ => rfl
theorem over : Rows.marshalBitsRow.holds Tryz.pinned (OpenSpec.ofChange Rows.marshalBitsSpec) :=
 OpenClaim.holds_of_wide 11 Tryz.f11 rfl rfl rfl rfl rfl rfl rfl ⟨rfl, rfl, rfl, rfl, rfl⟩ rfl rfl rfl rfl rfl (by kernel_rfl) Tryz.func11 (by kernel_rfl)
  (of_decide_eq_true (by kernel_rfl)) (by unfold Func.isWrapper; first | (rw [if_pos (by decide +kernel)]; kernel_rfl) | (rw [if_neg (by decide +kernel)]; exact ⟨rfl, rfl⟩))
  (fun os started H enc _ => lifted os started H enc)
theorem proved : Rows.MarshalBitsCardSaid :=
 Claim7.holds_tied_plain_at .later [] [.data, .pinned] true (true, "92e2ed60dd5b2613fe6e0d172a7e2bd0782f276a49ab098c444f4227433a6c5a") false
  over (fun _ h => by cases h) (by kernel_rfl) (fun _ h => by cases h) marshalBits_row_tie rfl ⟨rfl, rfl⟩ (by kernel_rfl) rfl
  (fun f fn hf hfn => by
   obtain rfl : f = 11 := Option.some.inj ((show Tryz.prog.funcNamed "cabochon/cabochonlaw29.MarshalBits" = some 11 by kernel_rfl).symm.trans hf) |>.symm
   obtain rfl : fn = Tryz.f11 := (Option.some.inj (Tryz.func11.symm.trans hfn)).symm
   exact ⟨by kernel_rfl, fun j t ht => by
    have hm : t ∈ Tryz.f11.params.toList := by simpa using Array.mem_of_getElem? ht
    have hall : (Tryz.f11.params.toList.all fun u => !Tryz.prog.wantsStandIn u) = true := by kernel_rfl
    exact (show Tryz.prog.wantsStandIn t = false by simpa using List.all_eq_true.1 hall t hm)⟩)
  (by kernel_rfl)
#print axioms proved
end MarshalBits
end Go.Proofs.YtgogonnnojcioaaGreatDoor
