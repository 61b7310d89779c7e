/-
  MarshalCutCardSaid is proved: of every numbers MarshalCut returns true; the listed tables are tied to the program's text.
-/
import Derived.Test.YtgogonnnojcioaaGreatDoorCards
import Derived.Test.YtgogonnnojcioaaGreatDoorTie
import Derived.Test.YtgogonnnojcioaaGreatDoorMcu8
set_option linter.unusedVariables false
set_option linter.unusedSimpArgs false
/-
 Contracts: the whole bytes are read (program).
-/
namespace Go.Proofs.YtgogonnnojcioaaGreatDoor
open Go.AX Go.RowKit Go.Core Go.Marshal
set_option maxRecDepth 20000

theorem checkW (a : Option Addr) (ca : Nat) (l : List CellP) (ha : a = none → l = []) (hs : l.length ≤ 2000 ∧ ∀ p ∈ l, p.c.names.length ≤ 40000 ∧ p.c.items.length ≤ 40000) (hok : ∀ p ∈ l, CellOk p) (b : Bool) (hb : b = true ↔ ValidP (l.map (·.c))) :
  ∀ H, (∀ w, Facts H w → GrF a l w) → SpecH Tryz.prog 65 (pvs [.slice a l.length ca]) H (Ret (errI b) H) := by
 intro H hH
 obtain ⟨b2, hb2, h⟩ := Check_w a ca l ha hs hok H hH
 have e : b2 = b := by rw [Bool.eq_iff_iff, hb, hb2]
 rw [← e]
 exact h
def P0 : RdP := ⟨[], none, 0, none, 0, none, 0⟩
def RdR (st : PS) (v : Value) (G : World → Prop) : Prop := ∃ (rb : Nat) (p : RdP), v = .tuple #[.pointer (some ⟨rb, 0, none⟩), .int .i64 st.e] ∧ RdOk st p ∧ ∀ w, G w → SlAt (some ⟨rb, 0, none⟩) 5 (rdC st p) w ∧ SlAt p.ga (p.m.length * 5) (grC p.m) w ∧ (∀ q ∈ p.m, CellF q w) ∧ SlAt p.sa (st.ss.length * 1) (strC st.ss) w
set_option maxHeartbeats 4000000 in
theorem read_c (s : List UInt8) (hs : s.length ≤ 20000) : SpecF Tryz.prog 41 [.string (bs s)] (fun w => ∀ q ∈ ([] : List CellP), CellF q w) (RdR (readM s)) := by
 refine specF_of ?_
 refine SpecH.pad [.app 57 5 [] none 0 0, .app 3 1 [] none 0 0, .app 9 1 [] none 0 0] rfl ?_
 refine spec_of_exec hm Tryz.func41 (by kernel_rfl) rfl rfl ?_
 have hsz := bs_size s
 (first | refine wXB ?_ | exact wZB)
 refine brd_dec (fun h => absurd h (by rw [hsz]; omega)) (fun _ => ?_)
 (first | refine wXB ?_ | exact wZB)
 refine BoxN.known [.string (bs s), .slice none 0 0, .slice none 0 0, .slice none 0 0, .int .i64 0] rfl fun rb => ?_
 (first | refine wXK ?_ | exact wZK)
 refine RwN.known [.int .u8 67, .int .u8 77, .int .u8 1] rfl fun hb => ?_
 (first | refine wXK ?_ | exact wZK)
 refine EffW.constB 5 rfl Tryz.underlying29 Tryz.underlying5 rfl rfl ?_
 obtain ⟨S0, hS0⟩ : ∃ S0, headM headB ⟨s, [], [], [], 0⟩ = S0 := ⟨_, rfl⟩
 have ok0 : RdOk ⟨s, [], [], [], 0⟩ P0 := ⟨rfl, (fun q hq => by cases hq), fun _ => rfl, fun _ => rfl, fun _ => rfl, (fun t ht => by cases ht), .inl rfl⟩
 have bd0 : Bd ⟨s, [], [], [], 0⟩ := ⟨Nat.zero_le _, Nat.le_refl _, by show 0 + s.length ≤ _; omega⟩
 (first | refine wXK ?_ | exact wZK)
 refine LoopN.intro (Nat × PS) (fun ⟨i, st⟩ => i ≤ 3 ∧ headM (headB.drop i) st = S0 ∧ RdOk st P0 ∧ Le 0 ⟨s, [], [], [], 0⟩ st)
  (fun ⟨i, _⟩ => mkS Tryz.f41.ntmps 0 [(4, .c (.v (.pointer (some ⟨rb, 0, none⟩)))), (14, .c (.v (.slice (some ⟨hb, 0, none⟩) 3 3))), (15, .c (.v (.int .i64 3))), (16, .c (.v (.int .i64 (i : Int))))])
  (fun ⟨_, st⟩ => [.fact fun w => ∀ q ∈ ([] : List CellP), CellF q w, .app 57 5 [] none 0 0, .app 3 1 (iC st.cells) none st.cells.length 0, .app 9 1 (strC st.ss) none st.ss.length 0, .app 84 5 (rdC st P0) (some ⟨rb, 0, none⟩) 1 1, .app 5 1 [.int .u8 67, .int .u8 77, .int .u8 1] (some ⟨hb, 0, none⟩) 3 3]) (fun ⟨i, _⟩ => 3 - i) [] rfl
  (fun _ => rfl) (fun _ => rfl) (fun _ _ => okHB_eq rfl) ⟨(0, ⟨s, [], [], [], 0⟩), ⟨by omega, hS0, ok0, Le.refl _⟩, ?_, ?_⟩ ?_
 ·exact wKK
 ·exact ⟨wkE_refl _, wkE_refl _, wkE_refl _, wkE_refl _, wkE_refl _, wkE_refl _, wkH_nil _⟩
 rintro ⟨i, st⟩ ⟨h1, h2, h3, h4⟩
 (first | refine wXK ?_ | exact wZK)
 refine brd_dec (fun hi => ?_) (fun hi => ?_)
 ·obtain ⟨c, hc⟩ : ∃ c, headB[i]? = some c := ⟨_, List.getElem?_eq_getElem (by show i < 3; omega)⟩
  have hd : headB.drop i = c :: headB.drop (i + 1) := by
   obtain ⟨h5, h6⟩ := List.getElem?_eq_some_iff.1 hc
   rw [← h6, List.getElem_cons_drop]
  rw [hd] at h2
  have h2 : headM (headB.drop (i + 1)) (if (nextM st).1 ≠ c then failM (nextM st).2 4 else (nextM st).2) = S0 := h2
  have hcv : ([.int .u8 67, .int .u8 77, .int .u8 1] : List Value)[i]? = some (.int .u8 (c.toNat : Int)) := by
   rcases i with _ | _ | _ | i
   ·cases hc; rfl
   ·cases hc; rfl
   ·cases hc; rfl
   ·cases hc
  have hnx := next_m rb st P0
  have hln := h4.trans (next_le st)
  have okn := h3.same (next_keep st)
  generalize nextM st = r at h2 hnx hln okn ⊢
  obtain ⟨x, st2⟩ := r
  simp only at h2 hnx hln okn
  (first | refine wXK ?_ | exact wZK)
  refine Nd.mk ⟨rfl, by omega, by omega⟩ ?_
  (first | refine wXK ?_ | exact wZK)
  refine LdN.one (.int .u8 (c.toNat : Int)) rfl (fun w hw => hw.2.2.2.2.2.1) (by show ([.int .u8 67, .int .u8 77, .int .u8 1] : List Value)[Int.toNat _ * 1]? = _; rw [Int.toNat_natCast, Nat.mul_one]; exact hcv) ?_
  (first | refine wXK ?_ | exact wZK)
  refine callG (hnx) [4, 1, 0, 2, 3] rfl ⟨rfl, rfl, rfl, rfl, rfl, trivial⟩ rfl fun _ _ => ?_
  (first | refine wXK ?_ | exact wZK)
  refine brd_ne (fun h7 => ?_) (fun h7 => ?_)
  ·have hxc : x ≠ c := fun h => h7 (by rw [h])
   rw [if_pos hxc] at h2
   (first | refine wXK ?_ | exact wZK)
   refine callG (fail_m rb st2 P0 4) [4, 1, 0, 2, 3] rfl ⟨rfl, rfl, rfl, rfl, rfl, trivial⟩ rfl fun _ _ => ?_
   (first | refine wXK ?_ | exact wZK)
   refine ⟨(i + 1, failM st2 4), ⟨by omega, h2, okn.same (fail_ss st2 4), hln.trans (fail_le st2 4)⟩, by show 3 - (i + 1) < 3 - i; omega, ?_, wkE_refl _, wkE_refl _, wkE_refl _, wkE_refl _, wkE_refl _, wkE_refl _, wkH_nil _⟩
   exact wKK
  ·have hxc : x = c := UInt8.toNat_inj.1 (by omega)
   rw [if_neg (fun h => h hxc)] at h2
   (first | refine wXK ?_ | exact wZK)
   refine ⟨(i + 1, st2), ⟨by omega, h2, okn, hln⟩, by show 3 - (i + 1) < 3 - i; omega, ?_, wkE_refl _, wkE_refl _, wkE_refl _, wkE_refl _, wkE_refl _, wkE_refl _, wkH_nil _⟩
   exact wKK
 ·obtain rfl : i = 3 := by omega
  have h2 : st = S0 := h2
  subst h2
  have hR : readM s = checkM (endM (cellM (s.length + 1) st).2) := by unfold readM; rw [hS0]
  rw [hR]
  have hs4 : st.s.length ≤ s.length := h4.s
  have bd4 := bd0.le h4
  have hce := cell_rd (s.length + 1) rb st P0 h3 bd4 (.inl (by omega))
  have hwd := cell_wd (s.length + 1) st bd4 (by unfold Wd; rw [← h3.g]; intro c hc; cases hc)
  have bd5 := bd4.le ((cell_takes (s.length + 1)).le st)
  generalize cellM (s.length + 1) st = r at hce hwd bd5 ⊢
  obtain ⟨z, st1⟩ := r
  simp only at hce hwd bd5
  (first | refine wXK ?_ | exact wZK)
  refine callG hce [4, 1, 0, 2, 3] rfl ⟨rfl, rfl, rfl, rfl, rfl, trivial⟩ rfl fun p hp => ?_
  (first | refine wXK ?_ | exact wZK)
  refine LdN.one (a := some ⟨rb, 0, none⟩) (q := 4) (.int .i64 st1.e) rfl (fun w hw => hw.2.2.2.2.1) rfl ?_
  (first | refine wXK ?_ | exact wZK)
  by_cases he : st1.e = 0
  ·rw [show (st1.e == 0) = true by rw [he]; rfl]
   (first | refine wXK ?_ | exact wZK)
   refine LdN.one (a := some ⟨rb, 0, none⟩) (q := 0) (.string (bs st1.s)) rfl (fun w hw => hw.2.2.2.2.1) rfl ?_
   (first | refine wXK ?_ | exact wZK)
   have hsn : ((bs st1.s).data.toList == (⟨#[]⟩ : ByteArray).data.toList) = decide (st1.s = []) := by rw [bs_list]; cases st1.s <;> rfl
   rw [hsn]
   by_cases hs1 : st1.s = []
   ·rw [decide_eq_true hs1]
    have e1 : endM st1 = st1 := by
     unfold endM
     rw [if_neg (fun h => h.2 hs1)]
    have hml : p.m.length = st1.g.length := by rw [← hp.g, List.length_map]
    have hgl := bd5.g
    obtain ⟨b, hb⟩ : ∃ b : Bool, b = true ↔ ValidP (p.m.map (·.c)) := by
     by_cases h : ValidP (p.m.map (·.c))
     ·exact ⟨true, fun _ => h, fun _ => rfl⟩
     ·exact ⟨false, (fun h => by cases h), fun h2 => absurd h2 h⟩
    have e2 : checkM st1 = { st1 with e := if b then 0 else 1 } := by
     unfold checkM
     rw [if_pos he]
     congr 1
     rw [← hp.g]
     cases b with
     | true => rw [if_pos (hb.1 rfl)]; rfl
     | false => rw [if_neg (fun h => by have := hb.2 h; cases this)]; rfl
    have hwm : ∀ q ∈ p.m, q.c.names.length ≤ 40000 ∧ q.c.items.length ≤ 40000 := fun q hq => by
     have := hwd q.c (by rw [← hp.g]; exact List.mem_map.2 ⟨q, hq, rfl⟩)
     exact ⟨Nat.le_trans this.1 (by decide), Nat.le_trans this.2 (by decide)⟩
    rw [show (z, st1).2 = st1 from rfl, e1, e2]
    (first | refine wXK ?_ | exact wZK)
    refine LdN.one (a := some ⟨rb, 0, none⟩) (q := 4) (.int .i64 st1.e) rfl (fun w hw => hw.2.2.2.2.1) rfl ?_
    rw [he]
    (first | refine wXK ?_ | exact wZK)
    refine LdN.one (a := some ⟨rb, 0, none⟩) (q := 1) (.slice p.ga p.m.length p.gc) rfl (fun w hw => hw.2.2.2.2.1) rfl ?_
    (first | refine wXK ?_ | exact wZK)
    refine call1 (checkW p.ga p.gc p.m hp.ga ⟨by omega, hwm⟩ hp.cell b hb _ (fun w hw => ⟨hw.2.1, hw.1⟩)) ?_
    (first | refine wXK ?_ | exact wZK)
    refine EffW.appTo (i := 4) (q := 4) (ys := [_]) (rdC ({ st1 with e := if b then 0 else 1 }) p) 5 rfl rfl rfl rfl rfl rfl rfl (Nat.le_of_ble_eq_true rfl) rfl rfl ?_
    (first | refine wXK ?_ | exact wZK)
    refine LdN.one (a := some ⟨rb, 0, none⟩) (q := 4) (.int .i64 (if b then 0 else 1)) rfl (fun w hw => hw.2.2.2.2.1) rfl ?_
    (first | refine wXK ?_ | exact wZK)
    exact fin_p (fun w => SlAt (some ⟨rb, 0, none⟩) 5 (rdC ({ st1 with e := if b then 0 else 1 }) p) w ∧ SlAt p.ga (p.m.length * 5) (grC p.m) w ∧ (∀ q ∈ p.m, CellF q w) ∧ SlAt p.sa (({ st1 with e := if b then 0 else 1 }).ss.length * 1) (strC ({ st1 with e := if b then 0 else 1 }).ss) w) ⟨rb, p, rfl, hp.same (st' := { st1 with e := if b then 0 else 1 }) ⟨rfl, rfl, rfl⟩, fun w hw => hw⟩ (fun w hw => ⟨hw.2.2.2.2.1, hw.2.1, hw.1, hw.2.2.2.1⟩)
   ·rw [decide_eq_false hs1]
    have e1 : endM st1 = failM st1 4 := by
     unfold endM
     rw [if_pos ⟨he, hs1⟩]
    have he4 : (failM st1 4).e = 4 := fail_e he 4
    have e2 : checkM (failM st1 4) = failM st1 4 := check_dead (by rw [he4]; decide)
    rw [show (z, st1).2 = st1 from rfl, e1, e2]
    have ok4 := hp.same (fail_ss st1 4)
    (first | refine wXK ?_ | exact wZK)
    refine callG (fail_m rb st1 p 4) [4, 1, 0, 2, 3] rfl ⟨rfl, rfl, rfl, rfl, rfl, trivial⟩ rfl fun _ _ => ?_
    generalize failM st1 4 = st4 at he4 ok4 ⊢
    (first | refine wXK ?_ | exact wZK)
    refine LdN.one (a := some ⟨rb, 0, none⟩) (q := 4) (.int .i64 st4.e) rfl (fun w hw => hw.2.2.2.2.1) rfl ?_
    rw [he4]
    (first | refine wXK ?_ | exact wZK)
    refine LdN.one (a := some ⟨rb, 0, none⟩) (q := 4) (.int .i64 st4.e) rfl (fun w hw => hw.2.2.2.2.1) rfl ?_
    (first | refine wXK ?_ | exact wZK)
    exact fin_p (fun w => SlAt (some ⟨rb, 0, none⟩) 5 (rdC (st4) p) w ∧ SlAt p.ga (p.m.length * 5) (grC p.m) w ∧ (∀ q ∈ p.m, CellF q w) ∧ SlAt p.sa ((st4).ss.length * 1) (strC (st4).ss) w) ⟨rb, p, rfl, ok4, fun w hw => hw⟩ (fun w hw => ⟨hw.2.2.2.2.1, hw.2.1, hw.1, hw.2.2.2.1⟩)
  ·have e1 : checkM (endM st1) = st1 := by rw [end_dead he, check_dead he]
   rw [e1]
   rw [show (st1.e == 0) = false by simpa using he]
   (first | refine wXK ?_ | exact wZK)
   refine LdN.one (a := some ⟨rb, 0, none⟩) (q := 4) (.int .i64 st1.e) rfl (fun w hw => hw.2.2.2.2.1) rfl ?_
   (first | refine wXK ?_ | exact wZK)
   refine brd_eq (fun h => absurd h he) (fun _ => ?_)
   (first | refine wXK ?_ | exact wZK)
   refine LdN.one (a := some ⟨rb, 0, none⟩) (q := 4) (.int .i64 st1.e) rfl (fun w hw => hw.2.2.2.2.1) rfl ?_
   (first | refine wXK ?_ | exact wZK)
   exact fin_p (fun w => SlAt (some ⟨rb, 0, none⟩) 5 (rdC (st1) p) w ∧ SlAt p.ga (p.m.length * 5) (grC p.m) w ∧ (∀ q ∈ p.m, CellF q w) ∧ SlAt p.sa ((st1).ss.length * 1) (strC (st1).ss) w) ⟨rb, p, rfl, hp, fun w hw => hw⟩ (fun w hw => ⟨hw.2.2.2.2.1, hw.2.1, hw.1, hw.2.2.2.1⟩)
end Go.Proofs.YtgogonnnojcioaaGreatDoor

/-
 Contracts: Load, Check, Symbols (program).
-/
namespace Go.Proofs.YtgogonnnojcioaaGreatDoor
open Go.AX Go.RowKit Go.Core Go.Marshal
set_option maxRecDepth 20000

theorem read_long (s : List UInt8) (hs : 20000 < s.length) : ∀ H, SpecH Tryz.prog 41 (pvs [.string (bs s)]) H (Ret (.tuple #[.pointer none, .int .i64 2]) H) := by
 refine pureC hm Tryz.func41 (by kernel_rfl) rfl rfl ?_
 have hsz := bs_size s
 (first | refine wX ?_ | exact wZ)
 refine brd_dec (fun h => ?_) (fun h => absurd (show (s.length : Int) > 20000 by omega) (by rw [hsz] at h; exact h))
 (first | refine wX ?_ | exact wZ)
def errS (r : Except Int (List Cell × List B)) : Int := match r with
 | .error e => e
 | .ok _ => 0
theorem MCheck_c (s : List UInt8) : SpecF Tryz.prog 24 [.string (bs s)] (fun _ => True) (fun v _ => v = .int .i64 (errS (loadS s))) := by
 refine specF hm Tryz.func24 (by kernel_rfl) rfl rfl ?_
 by_cases hs : 20000 < s.length
 ·have hl : loadS s = .error 2 := by unfold loadS; rw [if_pos hs]
  rw [hl]
  (first | refine wX ?_ | exact wZ)
  refine call1 (read_long s hs _) ?_
  (first | refine wX ?_ | exact wZ)
  exact fin_v rfl
 ·have href := load_ref (s := s) (by omega)
  ((conv => whnf); (repeat ((first | refine VrN.keep ?_ | refine BoxN.own ?_ | refine RwN.own ?_); (conv => whnf))))
  refine SpecF.call (read_c s (by omega)) (fun w _ q hq => by cases hq) fun v G hR => ?_
  obtain ⟨rb, p, rfl, ok, hG⟩ := hR
  generalize readM s = st at href ok hG ⊢
  cases hl : loadS s with
  | error e =>
   obtain ⟨h1, h2⟩ := href.2 e hl
   (first | refine wX ?_ | exact wZ)
   rw [h1]
   exact fin_v rfl
  | ok r =>
   obtain ⟨h1, h2, h3⟩ := href.1 r hl
   (first | refine wX ?_ | exact wZ)
   rw [h1]
   exact fin_v rfl
end Go.Proofs.YtgogonnnojcioaaGreatDoor

/-
 Plain: small graphs are written and read back.
-/
namespace Go.Marshal
open Go.Core

structure Tiny (g : List Cell) : Prop where
 valid : ValidP g
 len : g.length ≤ 12
 cell : ∀ c ∈ g, c.items.length ≤ 4 ∧ c.names.length ≤ 2 ∧ c.text.length ≤ 2
theorem Tiny.dmp {g : List Cell} (h : Tiny g) {k : Int} (hk : InI g k) : Dmp g 60 k :=
 ⟨h.valid, fun c hc => by have := h.cell c hc; omega, hk⟩
theorem Tiny.dump_len {g : List Cell} (h : Tiny g) {k : Int} (hk : InI g k) : (dumpS g k).length ≤ 5000 ∧ 3 ≤ (dumpS g k).length := by
 have hd := h.dmp hk
 have hin := valid_in h.valid
 have h4 := write_len hin hd.cellW (by decide) (g.length + 1) ⟨headB, [], []⟩ k hk hd.few
 have h5 : wgt iN g [] ≤ g.length * 6 := wgt_le (fun i hi => by
  have := h.cell _ (at_mem hi)
  unfold iN
  omega) []
 have h6 := h.len
 have h7 : (dumpS g k).length + 60 * wgt iN g (writeF g (g.length + 1) ⟨headB, [], []⟩ k).cells ≤ 3 + 60 * wgt iN g [] + 60 := h4
 obtain ⟨b, e, hb⟩ := back_write h.valid.1 hin hd.cellW (g.length + 1) ⟨headB, [], []⟩ k hk ⟨List.nodup_nil, (fun _ h => by cases h), fun _ h => by cases h⟩ (Nat.lt_succ_of_le (free_le g [])) hd.few
 have e2 : dumpS g k = headB ++ b := e
 refine ⟨by omega, ?_⟩
 rw [e2, List.length_append]
 show 3 ≤ 3 + _
 omega
theorem Tiny.load {g : List Cell} (h : Tiny g) {k : Int} (hk : InI g k) :
  ∃ (q : List Cell) (org cs : List Int), loadS (dumpS g k) = .ok (q, (doneW g k).ss) ∧ Img g q k org ∧ q.length ≤ 1 + wgt iT g [] ∧ (∀ i, i ∈ cs ↔ InI q i ∧ shared (Core.at_ q i)) ∧ cs.Nodup ∧ cs.map (lk org) = (doneW g k).cells := by
 have hd := h.dmp hk
 have h5 : wgt iT g [] ≤ g.length * 4 := wgt_le (fun i hi => by
  have := h.cell _ (at_mem hi)
  unfold iT
  omega) []
 have h6 := h.len
 rcases load_dump hd with ⟨h1, _⟩ | ⟨h1, _⟩ | h1
 ·have := (h.dump_len hk).1
  omega
 ·omega
 ·obtain ⟨q, org, cs, e, hi, hl, hr⟩ := h1
  have hv : ValidP q := valid_img h.valid hi (by omega)
  rw [if_pos hv] at e
  exact ⟨q, org, cs, e, hi, hl, hr⟩
end Go.Marshal

/-
 AX, fifty-fourth text: families of rows of the call's own (.fam), rows put in and taken out; calls that see facts and hand back own entries.
-/
namespace Go.AX

structure RowD where
 T : TypeId
 sz : Nat
 n : Nat
 xs : List Value
 b : Nat
 cap : Nat
def RowD.ok (r : RowD) (w : World) : Prop := RowF r.T r.sz r.n r.xs r.b r.cap w
def famB (l : List RowD) (b : Nat) : Prop := ∃ r ∈ l, r.b = b
def famF (l : List RowD) (w : World) : Prop := (l.map RowD.b).Nodup ∧ ∀ r ∈ l, r.ok w
def famE (l : List RowD) : Ent := .fam (famB l) (famF l)
theorem famF.imm {l : List RowD} {w : World} (h : famF l w) : Imm (famB l) w (famF l) :=
 ⟨h, fun _ hw => ⟨h.1, fun r hr => (h.2 r hr).move (hw r.b ⟨r, hr, rfl⟩)⟩⟩
theorem rowF_lt {T : TypeId} {sz n : Nat} {xs : List Value} {b cap : Nat} {w : World} (h : RowF T sz n xs b cap w) : b < w.heap.size := by
 obtain ⟨arr, fr, ⟨h1, _⟩, _⟩ := h
 exact (Array.getElem?_eq_some_iff.1 h1).1
theorem famE_ok {ρ : List Loc} {S : Nat → Prop} {w : World} {i : Nat} {l : List RowD} (h : famF l w) : EntOk ρ S w i (famE l) :=
 ⟨h.imm, fun _ ⟨r, hr, hb⟩ => hb ▸ rowF_lt (h.2 r hr)⟩
theorem famF_nil (w : World) : famF [] w := ⟨List.nodup_nil, fun r h => by cases h⟩
def TurnE (H G : List Ent) : Prop := G.length = H.length ∧ ∀ (ρ : List Loc) (S : Nat → Prop) (w : World), Sat ρ S H w → Sat ρ S G w ∧ Ev ρ S H w ρ S G w
theorem TurnE.s {H G : List Ent} (h : TurnE H G) : TurnS H G := ⟨h.1, fun ρ S w hs => ⟨S, h.2 ρ S w hs⟩⟩
theorem TurnE.refl (H : List Ent) : TurnE H H := ⟨rfl, fun _ _ _ hs => ⟨hs, Ev.refl _ _ _ _⟩⟩
theorem TurnE.trans {H G J : List Ent} (h : TurnE H G) (k : TurnE G J) : TurnE H J :=
 ⟨k.1.trans h.1, fun ρ S w hs => by
  obtain ⟨h1, e1⟩ := h.2 ρ S w hs
  obtain ⟨h2, e2⟩ := k.2 ρ S w h1
  exact ⟨h2, e1.trans e2⟩⟩
theorem TurnS.trans {H G J : List Ent} (h : TurnS H G) (k : TurnS G J) : TurnS H J :=
 ⟨k.1.trans h.1, fun ρ S w hs => by
  obtain ⟨S1, h1, e1⟩ := h.2 ρ S w hs
  obtain ⟨S2, h2, e2⟩ := k.2 ρ S1 w h1
  exact ⟨S2, h2, e1.trans e2⟩⟩
theorem Sat.two {ρ : List Loc} {S : Nat → Prop} {H : List Ent} {w : World} (h : Sat ρ S H w) {i j : Nat} {e f e' f' : Ent} (hi : H[i]? = some e) (hj : H[j]? = some f) (hne : i ≠ j)
  (hb : ∀ b, entB ρ i e' b ∨ entB ρ j f' b → entB ρ i e b ∨ entB ρ j f b) (hx : ∀ b, entB ρ i e' b → ¬ entB ρ j f' b) (ke : EntOk ρ S w i e') (kf : EntOk ρ S w j f') :
  Sat ρ S ((H.set i e').set j f') w ∧ Ev ρ S H w ρ S ((H.set i e').set j f') w := by
 have hil := (List.getElem?_eq_some_iff.1 hi).1
 have hjl := (List.getElem?_eq_some_iff.1 hj).1
 have hcase : ∀ (k : Nat) (g : Ent), ((H.set i e').set j f')[k]? = some g → (k = i ∧ g = e') ∨ (k = j ∧ g = f') ∨ (k ≠ i ∧ k ≠ j ∧ H[k]? = some g) := fun k g hk => by
  by_cases h2 : k = j
  ·subst h2
   rw [List.getElem?_set_self (by rw [List.length_set]; exact hjl)] at hk
   exact .inr (.inl ⟨rfl, (Option.some.inj hk).symm⟩)
  ·rw [List.getElem?_set_ne (fun e => h2 e.symm)] at hk
   by_cases h1 : k = i
   ·subst h1
    rw [List.getElem?_set_self hil] at hk
    exact .inl ⟨rfl, (Option.some.inj hk).symm⟩
   ·rw [List.getElem?_set_ne (fun e => h1 e.symm)] at hk
    exact .inr (.inr ⟨h1, h2, hk⟩)
 have hown : ∀ (k : Nat) (g : Ent) (b : Nat), ((H.set i e').set j f')[k]? = some g → entB ρ k g b → (k = i ∨ k = j) ∧ (entB ρ i e b ∨ entB ρ j f b) ∨ (k ≠ i ∧ k ≠ j ∧ H[k]? = some g) := fun k g b hk hg => by
  rcases hcase k g hk with ⟨rfl, rfl⟩ | ⟨rfl, rfl⟩ | h3
  ·exact .inl ⟨.inl rfl, hb b (.inl hg)⟩
  ·exact .inl ⟨.inr rfl, hb b (.inr hg)⟩
  ·exact .inr h3
 have hno : ∀ (k : Nat) (g : Ent) (b : Nat), k ≠ i → k ≠ j → H[k]? = some g → entB ρ k g b → ¬ (entB ρ i e b ∨ entB ρ j f b) := fun k g b h1 h2 hk hg hh => by
  rcases hh with hh | hh
  ·exact h1 (h.inj k i g e b hk hi hg hh)
  ·exact h2 (h.inj k j g f b hk hj hg hh)
 have hmb : ∀ b, mb ρ ((H.set i e').set j f') b → mb ρ H b := fun b ⟨k, g, hk, hg⟩ => by
  rcases hown k g b hk hg with ⟨_, h1 | h1⟩ | ⟨_, _, h1⟩
  ·exact ⟨i, e, hi, h1⟩
  ·exact ⟨j, f, hj, h1⟩
  ·exact ⟨k, g, h1, hg⟩
 refine ⟨⟨by rw [List.length_set, List.length_set]; exact h.len, fun k g hk => ?_, fun k l g g2 b hk hl hg hg2 => ?_, fun b hb => h.out b (hmb b hb), h.low⟩, ⟨⟨[], by simp⟩, rfl, rfl, rfl, Nat.le_refl _, fun _ _ _ => rfl, fun _ h => .inl h, fun b hb => .inl (hmb b hb)⟩⟩
 ·rcases hcase k g hk with ⟨rfl, rfl⟩ | ⟨rfl, rfl⟩ | ⟨_, _, h3⟩
  ·exact ke
  ·exact kf
  ·exact h.ent k g h3
 ·rcases hcase k g hk with ⟨rfl, rfl⟩ | ⟨rfl, rfl⟩ | ⟨k1, k2, h3⟩ <;> rcases hcase l g2 hl with ⟨rfl, rfl⟩ | ⟨rfl, rfl⟩ | ⟨l1, l2, h4⟩
  ·rfl
  ·exact absurd hg2 (hx b hg)
  ·exact absurd (hb b (.inl hg)) (hno l g2 b l1 l2 h4 hg2)
  ·exact absurd hg (hx b hg2)
  ·rfl
  ·exact absurd (hb b (.inr hg)) (hno l g2 b l1 l2 h4 hg2)
  ·exact absurd (hb b (.inl hg2)) (hno k g b k1 k2 h3 hg)
  ·exact absurd (hb b (.inr hg2)) (hno k g b k1 k2 h3 hg)
  ·exact h.inj k l g g2 b h3 h4 hg hg2
theorem famPut {H : List Ent} (i j : Nat) {l l' : List RowD} {T : TypeId} {sz n b cap : Nat} {xs : List Value} (hi : nthE H i = some (famE l)) (hj : nthE H j = some (.app T sz xs (some ⟨b, 0, none⟩) n cap)) (hne : Nat.beq i j = false) (hp : (⟨T, sz, n, xs, b, cap⟩ :: l).Perm l') : TurnE H ((H.set i (famE l')).set j .dead) := by
 rw [nthE_eq] at hi hj
 refine ⟨by rw [List.length_set, List.length_set], fun ρ S w hs => ?_⟩
 have hF : famF l w := (hs.ent i _ hi).1.1
 have hij := Nat.ne_of_beq_eq_false hne
 rcases hs.ent j _ hj with ⟨h0, _⟩ | ⟨b', hb', hrow⟩
 ·cases h0
 cases hb'
 have hnb : b ∉ l.map RowD.b := fun hm => by
  obtain ⟨r, hr, hrb⟩ := List.mem_map.1 hm
  exact hij (hs.inj i j _ _ b hi hj ⟨r, hr, hrb⟩ rfl)
 have hF' : famF l' w := ⟨(hp.map RowD.b).nodup_iff.1 (List.nodup_cons.2 ⟨hnb, hF.1⟩), fun q hq => by
  rcases List.mem_cons.1 (hp.mem_iff.2 hq) with rfl | hq
  ·exact hrow
  ·exact hF.2 q hq⟩
 refine hs.two hi hj hij (fun c hc => ?_) (fun _ _ hb => hb) (famE_ok hF') trivial
 rcases hc with ⟨q, hq, hqb⟩ | hc
 ·rcases List.mem_cons.1 (hp.mem_iff.2 hq) with rfl | hq
  ·exact .inr (congrArg some hqb)
  ·exact .inl ⟨q, hq, hqb⟩
 ·exact hc.elim
theorem famNew {H : List Ent} (i : Nat) (hi : nthE H i = some .dead) : TurnE H (H.set i (famE [])) := by
 rw [nthE_eq] at hi
 refine ⟨by rw [List.length_set], fun ρ S w hs => ?_⟩
 have hget : ∀ (j : Nat) (f : Ent), (H.set i (famE []))[j]? = some f → f = famE [] ∨ H[j]? = some f := fun j f hf => by
  by_cases hj : i = j
  ·subst hj
   rw [List.getElem?_set_self (List.getElem?_eq_some_iff.1 hi).1] at hf
   exact .inl (Option.some.inj hf).symm
  ·rw [List.getElem?_set_ne hj] at hf
   exact .inr hf
 have hb : ∀ (j : Nat) (f : Ent) (b : Nat), (H.set i (famE []))[j]? = some f → entB ρ j f b → H[j]? = some f := fun j f b hf hfb => by
  rcases hget j f hf with rfl | h1
  ·obtain ⟨r, hr, _⟩ := hfb; cases hr
  ·exact h1
 have hmb : ∀ b, mb ρ (H.set i (famE [])) b → mb ρ H b := fun b ⟨j, f, hf, hfb⟩ => ⟨j, f, hb j f b hf hfb, hfb⟩
 exact ⟨⟨by simp [hs.len], fun j f hf => by
   rcases hget j f hf with rfl | h1
   ·exact famE_ok (famF_nil w)
   ·exact hs.ent j f h1,
  fun j k f g b hf hg hfb hgb => hs.inj j k f g b (hb j f b hf hfb) (hb k g b hg hgb) hfb hgb, fun b hbb => hs.out b (hmb b hbb), hs.low⟩,
  ⟨⟨[], by simp⟩, rfl, rfl, rfl, Nat.le_refl _, fun _ _ _ => rfl, fun _ h => .inl h, fun b hbb => .inl (hmb b hbb)⟩⟩

def Ent.bare : Ent → Bool
 | .app .. => true
 | .mp .. => true
 | .fam .. => true
 | .dead => true
 | _ => false
theorem EntOk.bare {ρ ρ' : List Loc} {S S' : Nat → Prop} {w : World} {i j : Nat} {e : Ent} (he : e.bare = true) (h : EntOk ρ S w i e) : EntOk ρ' S' w j e := by
 cases e <;> first | (cases he; done) | exact h
theorem entB_bare {ρ ρ' : List Loc} {i j b : Nat} {e : Ent} (he : e.bare = true) (h : entB ρ i e b) : entB ρ' j e b := by
 cases e <;> first | (cases he; done) | exact h
def appsK : List Ent → List Ent → (List Ent → Prop) → Prop
 | H, [], K => K H
 | H, e :: N, K => snocK H e 0 fun H' _ => appsK H' N K
theorem appsK_eq : ∀ (N H : List Ent) (K : List Ent → Prop), appsK H N K = K (H ++ N)
 | [], H, K => by simp [appsK]
 | e :: N, H, K => by
  unfold appsK
  rw [snocK_eq, appsK_eq N]
  simp
theorem factG {P : Program} {f : FuncId} {xs : List Value} {F : World → Prop} {ι : Type} {inv : ι → Prop} {val : ι → Value} {N : ι → List Ent} (hN : ∀ i, (N i).all Ent.bare = true)
  (h : SpecH P f (pvs xs) [.fact F] (RetG inv val fun i => .dead :: N i)) {H : List Ent} (hF : ∀ w, Facts H w → F w) {K : Out → List Ent → Prop} (hk : ∀ i, inv i → appsK H (N i) fun G => K (.val (.c (.v (val i)))) G) : SpecH P f (pvs xs) H K := by
 refine ⟨h.ok, fun ρ S w vs hs hr => ?_⟩
 have h0 : Sat [⟨0, 0⟩] (fun b => S b ∨ appB H b) [.fact F] w := by
  refine ⟨rfl, fun i e he => ?_, fun i j e f b he hf heo => ?_, fun b hb => ?_, fun b hb => ?_⟩
  ·match i, he with
   | 0, he => simp at he; subst he; exact hs.imm.mono hF
  ·match i, he with
   | 0, he => simp at he; subst he; exact heo.elim
  ·obtain ⟨i, e, he, ho⟩ := hb
   match i, he with
   | 0, he => simp at he; subst he; exact ho.elim
  ·rcases hb with hb | hb
   ·exact hs.low b hb
   ·obtain ⟨i, e, he, heb⟩ := appB_mb (ρ := ρ) hb
    exact hs.blk_lt he heb
 have nomb : ∀ b, ¬ mb [⟨0, 0⟩] [Ent.fact F] b := by
  rintro b ⟨i, e, he, ho⟩
  match i, he with
  | 0, he => simp at he; subst he; exact ho.elim
 obtain rfl := RelS_pvs hr
 refine (h.run _ _ w vs h0 (pvs_rel _ vs)).mono fun e w' ⟨ρ', S', H', out, hs', hev, hout, i, hi, ho, hH⟩ => ?_
 subst ho
 subst hH
 have hk := hk i hi
 rw [appsK_eq] at hk
 have hnew : ∀ (k : Nat) (g : Ent) (b : Nat), (N i)[k]? = some g → entB ρ' (k + 1) g b → w.heap.size ≤ b := fun k g b hg hb => (hev.own b ⟨k + 1, g, by simpa using hg, hb⟩).resolve_left (nomb b)
 have hbr : ∀ (k : Nat) (g : Ent), (N i)[k]? = some g → g.bare = true := fun k g hg => List.all_eq_true.1 (hN i) g (List.mem_of_getElem? hg)
 have hbel : ∀ b, b < w.heap.size → w'.heap[b]? = w.heap[b]? := fun b hb => hev.keep b hb (nomb b)
 have hcase : ∀ (k : Nat) (g : Ent), (H ++ N i)[k]? = some g → (k < H.length ∧ H[k]? = some g) ∨ (H.length ≤ k ∧ (N i)[k - H.length]? = some g) := fun k g hg => by
  by_cases hk : k < H.length
  ·rw [List.getElem?_append_left hk] at hg; exact .inl ⟨hk, hg⟩
  ·rw [List.getElem?_append_right (by omega)] at hg
   exact .inr ⟨by omega, hg⟩
 have hown : ∀ (k : Nat) (g : Ent) (b : Nat), (H ++ N i)[k]? = some g → entB (ρ ++ List.replicate (N i).length ⟨0, 0⟩) k g b → (k < H.length ∧ H[k]? = some g ∧ entB ρ k g b ∧ b < w.heap.size) ∨ (H.length ≤ k ∧ (N i)[k - H.length]? = some g ∧ entB ρ' (k - H.length + 1) g b ∧ w.heap.size ≤ b) := fun k g b hg hb => by
  rcases hcase k g hg with ⟨h1, h2⟩ | ⟨h1, h2⟩
  ·rw [entB_pre _ (by rw [hs.len]; exact h1)] at hb
   exact .inl ⟨h1, h2, hb, hs.blk_lt h2 hb⟩
  ·have h3 : entB ρ' (k - H.length + 1) g b := entB_bare (hbr _ g h2) hb
   exact .inr ⟨h1, h2, h3, hnew _ g b h2 h3⟩
 have hmb : ∀ b, mb (ρ ++ List.replicate (N i).length ⟨0, 0⟩) (H ++ N i) b → mb ρ H b ∨ w.heap.size ≤ b := fun b ⟨k, g, hg, hb⟩ => by
  rcases hown k g b hg hb with ⟨_, h2, h3, _⟩ | ⟨_, _, _, h4⟩
  ·exact .inl ⟨k, g, h2, h3⟩
  ·exact .inr h4
 refine ⟨ρ ++ List.replicate (N i).length ⟨0, 0⟩, S, H ++ N i, .val (.c (.v (val i))), ⟨by simp [hs.len], fun k g hg => ?_, fun k l g g2 b hg hg2 hb hb2 => ?_, fun b hb hS => ?_, fun b hb => Nat.lt_of_lt_of_le (hs.low b hb) hev.size⟩, ⟨⟨_, rfl⟩, hev.os, hev.tape, hev.output, hev.size, fun b hb _ => hbel b hb, fun b hb => .inl hb, hmb⟩, hout, hk⟩
 ·rcases hcase k g hg with ⟨h1, h2⟩ | ⟨h1, h2⟩
  ·exact (hs.ent k g h2).move _ (fun b hb => hbel b (hs.blk_lt h2 hb)) fun b hb => hbel b (hs.low b hb)
  ·exact EntOk.bare (hbr _ g h2) (hs'.ent (k - H.length + 1) g (by simpa using h2))
 ·rcases hown k g b hg hb with ⟨_, h2, h3, h4⟩ | ⟨h1, h2, h3, h4⟩ <;> rcases hown l g2 b hg2 hb2 with ⟨_, k2, k3, k4⟩ | ⟨k1, k2, k3, k4⟩
  ·exact hs.inj k l g g2 b h2 k2 h3 k3
  ·omega
  ·omega
  ·have := hs'.inj (k - H.length + 1) (l - H.length + 1) g g2 b (by simpa using h2) (by simpa using k2) h3 k3
   omega
 ·rcases hmb b hb with h1 | h1
  ·exact hs.out b h1 hS
  ·have := hs.low b hS; omega
end Go.AX

/-
 Contracts: a graph for the specification, and back (law), with memory that the caller may write.
-/
namespace Go.Proofs.YtgogonnnojcioaaGreatDoor
open Go.AX Go.RowKit Go.Core
set_option maxRecDepth 20000

def rowsP (p : CellP) : List RowD :=
 (match p.na with | some ad => [⟨9, 1, p.c.names.length, strC p.c.names, ad.block, p.nc⟩] | none => []) ++ (match p.ia with | some ad => [⟨3, 1, p.c.items.length, iC p.c.items, ad.block, p.ic⟩] | none => [])
def rowsG (m : List CellP) : List RowD := m.flatMap rowsP
theorem rowsG_snoc (m : List CellP) (p : CellP) : rowsG (m ++ [p]) = rowsG m ++ rowsP p := by unfold rowsG; rw [List.flatMap_append]; simp
structure OwnP (p : CellP) : Prop where
 na : ∀ ad, p.na = some ad → ad = ⟨ad.block, 0, none⟩
 ia : ∀ ad, p.ia = some ad → ad = ⟨ad.block, 0, none⟩
theorem rowF_sl {T : TypeId} {sz n : Nat} {xs : List Value} {b cap : Nat} {w : World} (h : RowF T sz n xs b cap w) : SlAt (some ⟨b, 0, none⟩) (n * sz) xs w := h.sl
theorem cellF_rows {p : CellP} (ho : CellOk p) (hw : OwnP p) {w : World} (h : ∀ r ∈ rowsP p, r.ok w) : CellF p w := by
 refine ⟨?_, ?_⟩
 ·cases hn : p.na with
  | none => rw [ho.na hn]; exact SlAt.nil
  | some ad =>
   rw [hw.na ad hn]
   exact rowF_sl (h ⟨9, 1, p.c.names.length, strC p.c.names, ad.block, p.nc⟩ (by unfold rowsP; rw [hn]; simp))
 ·cases hn : p.ia with
  | none => rw [ho.ia hn]; exact SlAt.nil
  | some ad =>
   rw [hw.ia ad hn]
   exact rowF_sl (h ⟨3, 1, p.c.items.length, iC p.c.items, ad.block, p.ic⟩ (by unfold rowsP; rw [hn]; simp))
theorem grF_rows {m : List CellP} (ho : ∀ p ∈ m, CellOk p) (hw : ∀ p ∈ m, OwnP p) {w : World} (h : famF (rowsG m) w) : ∀ p ∈ m, CellF p w := fun p hp =>
 cellF_rows (ho p hp) (hw p hp) fun r hr => h.2 r (List.mem_flatMap.2 ⟨p, hp, hr⟩)
def ownN (T : TypeId) (st : DSt) : List Ent := [.app T 5 (grC st.m) st.oa st.m.length st.oc, famE (rowsG st.m)]
structure OInv (l : List CellP) (st : DSt) : Prop where
 oa : st.oa = none → st.m = []
 c : st.m.map (·.c) = l.map (·.c)
 ok : ∀ p ∈ st.m, CellOk p
 own : ∀ p ∈ st.m, OwnP p
 cap : st.m.length ≤ st.oc
theorem OInv.gr {l : List CellP} {st : DSt} (h : OInv l st) {w : World} (h1 : SlAt st.oa (st.m.length * 5) (grC st.m) w) (h2 : famF (rowsG st.m) w) : GrF st.oa st.m w := ⟨h1, grF_rows h.ok h.own h2⟩
set_option maxHeartbeats 4000000 in
theorem as_o (a : Option Addr) (ca : Nat) (l : List CellP) (ha : a = none → l = []) (hs : Small l) (hok : ∀ p ∈ l, CellOk p) : SpecH Tryz.prog 32 (pvs [.slice a l.length ca]) [.fact (GrF a l)] (RetG (OInv l) (fun st => .slice st.oa st.m.length st.oc) (fun st => .dead :: ownN 87 st)) := by
 obtain ⟨hl, hsm⟩ := hs
 refine ownC hm Tryz.func32 (by kernel_rfl) rfl rfl (fun _ _ => okHB_eq rfl) (fun _ _ => by show 1 ≤ 3; decide) ?_
 (first | refine wX ?_ | exact wZ)
 refine LoopN.introS DSt (fun st => DInv l st ∧ ∀ p ∈ st.m, OwnP p) (fun ⟨i, oa, oc, m⟩ => mkS 35 0 [(0, .c (.v (.slice a l.length ca))), (3, .c (.v (.slice oa m.length oc))), (4, .c (.v (.int .i64 (i : Int))))]) (fun ⟨i, oa, oc, m⟩ => [.fact (GrF a l), .app 87 5 (grC m) oa m.length oc, famE (rowsG m)]) (fun ⟨i, _, _, _⟩ => l.length - i) [.app 87 5 [] none 0 0, .dead] rfl (fun _ => rfl) (fun _ => rfl) (fun _ _ => ⟨trivial, trivial, trivial, trivial⟩) ?_ ?_
 ·refine ⟨⟨0, none, 0, []⟩, ⟨⟨Nat.zero_le _, rfl, (fun p h => by cases h), (fun _ => rfl), Nat.le_refl _⟩, fun p h => by cases h⟩, ?_, _, (famNew 2 rfl).s, ?_⟩
  ·exact wKK
  ·exact ⟨wkE_refl _, wkE_refl _, wkE_refl _, trivial⟩
 rintro ⟨i, oa, oc, m⟩ ⟨hinv, hom⟩
 have hml := hinv.len
 obtain ⟨hi, hmc, hmo, hoa, hoc⟩ := hinv
 (first | refine wX ?_ | exact wZ)
 refine brd_dec (fun h1 => ?_) (fun h1 => ?_)
 ·obtain ⟨p, hp⟩ : ∃ p, l[i]? = some p := ⟨_, List.getElem?_eq_getElem (by omega)⟩
  have hpm := List.mem_of_getElem? hp
  have hpo := hok p hpm
  obtain ⟨hnl, hil⟩ := hsm p hpm
  have hsa : a.isSome = true := by
   cases a with
   | none => rw [ha rfl] at hp; cases hp
   | some b => rfl
  (first | refine wX ?_ | exact wZ)
  refine Nd.mk ⟨hsa, by omega, by omega⟩ ?_
  (first | refine wX ?_ | exact wZ)
  refine LdN.agg (cellC p) rfl (fun w hw => hw.1.1) rfl (fun k hk => by rw [Int.toNat_natCast]; exact grC_get l i k hk hp) ?_
  (first | refine wXB ?_ | exact wZB)
  refine BoxN.known [.int .i64 0, .int .i64 0, .string { data := #[] }, .slice none 0 0, .slice none 0 0] rfl fun cb => ?_
  (first | refine wXB ?_ | exact wZB)
  refine EffW.appTo (i := 3) (q := 0) (ys := cellC p) (cellC p) 5 rfl rfl rfl rfl rfl rfl rfl (Nat.le_of_ble_eq_true rfl) rfl rfl ?_
  (first | refine wXB ?_ | exact wZB)
  refine DrawN.planK hm (fun w => SlAt (some ⟨cb, 0, none⟩) 5 (cellC p) w) [7, 11] [0, 1, 3, 5, 8, 12] [(9, 1), (2, 1), (4, 1), (6, 1), (13, 1), (7, 2), (10, 0), (11, 2), (14, 0), (15, 0), (16, 0), (17, 0), (18, 0)] (by decide +kernel) (fun w hw => hw.2.2.2.1) ?_
  ((conv => whnf); (repeat ((first | refine Nd.mk (fun w hw => hw.2.2.2.1) ?_ | refine VrN.norm (wrap_i64 (by omega)) ?_ | refine VrN.keep ?_ | refine Nd.mk (by decide +kernel) ?_ | refine Nd.mk (by omega) ?_ | refine RdN.intro _ rfl (by rfl) ?_); (conv => whnf))))
  refine ReadC.one (a := some ⟨cb, 0, none⟩) (q := 3) (.slice p.na p.c.names.length p.nc) rfl rfl rfl (fun w hw => hw) rfl ?_
  ((conv => whnf); (repeat ((first | refine Nd.mk (fun w hw => hw.2.2.2.1) ?_ | refine VrN.norm (wrap_i64 (by omega)) ?_ | refine VrN.keep ?_ | refine Nd.mk (by decide +kernel) ?_ | refine Nd.mk (by omega) ?_ | refine RdN.intro _ rfl (by rfl) ?_); (conv => whnf))))
  refine ReadC.one (a := some ⟨cb, 0, none⟩) (q := 0) (.int .i64 p.c.kind) rfl rfl rfl (fun w hw => hw) rfl ?_
  ((conv => whnf); (repeat ((first | refine Nd.mk (fun w hw => hw.2.2.2.1) ?_ | refine VrN.norm (wrap_i64 (by omega)) ?_ | refine VrN.keep ?_ | refine Nd.mk (by decide +kernel) ?_ | refine Nd.mk (by omega) ?_ | refine RdN.intro _ rfl (by rfl) ?_); (conv => whnf))))
  refine ReadC.one (a := some ⟨cb, 0, none⟩) (q := 1) (.int .i64 p.c.num) rfl rfl rfl (fun w hw => hw) rfl ?_
  ((conv => whnf); (repeat ((first | refine Nd.mk (fun w hw => hw.2.2.2.1) ?_ | refine VrN.norm (wrap_i64 (by omega)) ?_ | refine VrN.keep ?_ | refine Nd.mk (by decide +kernel) ?_ | refine Nd.mk (by omega) ?_ | refine RdN.intro _ rfl (by rfl) ?_); (conv => whnf))))
  refine ReadC.one (a := some ⟨cb, 0, none⟩) (q := 2) (.string (bs p.c.text)) rfl rfl rfl (fun w hw => hw) rfl ?_
  ((conv => whnf); (repeat ((first | refine Nd.mk (fun w hw => hw.2.2.2.1) ?_ | refine VrN.norm (wrap_i64 (by omega)) ?_ | refine VrN.keep ?_ | refine Nd.mk (by decide +kernel) ?_ | refine Nd.mk (by omega) ?_ | refine RdN.intro _ rfl (by rfl) ?_); (conv => whnf))))
  refine ReadC.one (a := some ⟨cb, 0, none⟩) (q := 4) (.slice p.ia p.c.items.length p.ic) rfl rfl rfl (fun w hw => hw) rfl ?_
  ((conv => whnf); (repeat ((first | refine Nd.mk (fun w hw => hw.2.2.2.1) ?_ | refine VrN.norm (wrap_i64 (by omega)) ?_ | refine VrN.keep ?_ | refine Nd.mk (by decide +kernel) ?_ | refine Nd.mk (by omega) ?_ | refine RdN.intro _ rfl (by rfl) ?_); (conv => whnf))))
  intro nb
  ((conv => whnf); (repeat ((first | refine Nd.mk (fun w hw => hw.2.2.2.1) ?_ | refine VrN.norm (wrap_i64 (by omega)) ?_ | refine VrN.keep ?_ | refine Nd.mk (by decide +kernel) ?_ | refine Nd.mk (by omega) ?_ | refine RdN.intro _ rfl (by rfl) ?_); (conv => whnf))))
  refine app_any 4 [] (strC p.c.names) rfl (Nat.le_refl _) (fun h => by cases hq : p.na with | none => rw [hpo.na hq] at h; cases h | some b => rfl) (by show (strC p.c.names).length = p.c.names.length * 1; simp [strC]) (fun u hu => by obtain ⟨x, _, rfl⟩ := List.mem_map.1 hu; rfl) (fun w hw j v hv => (hw.1.2 p hpm).1.cell hv) ⟨⟨by show (0 + p.c.names.length) * 16 ≤ _; omega, by omega⟩, Nat.one_ne_zero⟩ fun nb2 nc2 hnc2 => ?_
  rw [Nat.zero_add, List.nil_append]
  ((conv => whnf); (repeat ((first | refine Nd.mk (fun w hw => hw.2.2.2.1) ?_ | refine VrN.norm (wrap_i64 (by omega)) ?_ | refine VrN.keep ?_ | refine Nd.mk (by decide +kernel) ?_ | refine Nd.mk (by omega) ?_ | refine RdN.intro _ rfl (by rfl) ?_); (conv => whnf))))
  intro ib
  ((conv => whnf); (repeat ((first | refine Nd.mk (fun w hw => hw.2.2.2.1) ?_ | refine VrN.norm (wrap_i64 (by omega)) ?_ | refine VrN.keep ?_ | refine Nd.mk (by decide +kernel) ?_ | refine Nd.mk (by omega) ?_ | refine RdN.intro _ rfl (by rfl) ?_); (conv => whnf))))
  refine app_any 5 [] (iC p.c.items) rfl (Nat.le_refl _) (fun h => by cases hq : p.ia with | none => rw [hpo.ia hq] at h; cases h | some b => rfl) (by show (iC p.c.items).length = p.c.items.length * 1; simp [iC]) (fun u hu => by obtain ⟨x, _, rfl⟩ := List.mem_map.1 hu; rfl) (fun w hw j v hv => (hw.1.2 p hpm).2.cell hv) ⟨⟨by show (0 + p.c.items.length) * 8 ≤ _; omega, by omega⟩, Nat.one_ne_zero⟩ fun ib2 ic2 hic2 => ?_
  rw [Nat.zero_add, List.nil_append]
  ((conv => whnf); (repeat ((first | refine Nd.mk (fun w hw => hw.2.2.2.1) ?_ | refine VrN.norm (wrap_i64 (by omega)) ?_ | refine VrN.keep ?_ | refine Nd.mk (by decide +kernel) ?_ | refine Nd.mk (by omega) ?_ | refine RdN.intro _ rfl (by rfl) ?_); (conv => whnf))))
  refine RwN.own ?_
  ((conv => whnf); (repeat ((first | refine Nd.mk (fun w hw => hw.2.2.2.1) ?_ | refine VrN.norm (wrap_i64 (by omega)) ?_ | refine VrN.keep ?_ | refine Nd.mk (by decide +kernel) ?_ | refine Nd.mk (by omega) ?_ | refine RdN.intro _ rfl (by rfl) ?_); (conv => whnf))))
  refine Nd.mk ⟨Nat.le_refl 1, rfl, rfl⟩ ?_
  (conv => whnf)
  refine AppN.grow 1 (grC m) (cellC ⟨p.c, some ⟨nb2, 0, none⟩, nc2, some ⟨ib2, 0, none⟩, ic2⟩) rfl rfl ⟨Nat.le_refl 1, ⟨by show (m.length + 1) * 80 ≤ _; omega, by omega⟩, by decide⟩ fun ob2 oc2 hoc2 _ => ?_
  ((conv => whnf); (repeat ((first | refine Nd.mk (fun w hw => hw.2.2.2.1) ?_ | refine VrN.norm (wrap_i64 (by omega)) ?_ | refine VrN.keep ?_ | refine Nd.mk (by decide +kernel) ?_ | refine Nd.mk (by omega) ?_ | refine RdN.intro _ rfl (by rfl) ?_); (conv => whnf))))
  have hm2 : m.length + 1 = (m ++ [(⟨p.c, some ⟨nb2, 0, none⟩, nc2, some ⟨ib2, 0, none⟩, ic2⟩ : CellP)]).length := by simp
  have hg2 := grC_snoc m ⟨p.c, some ⟨nb2, 0, none⟩, nc2, some ⟨ib2, 0, none⟩, ic2⟩
  have hrw := rowsG_snoc m ⟨p.c, some ⟨nb2, 0, none⟩, nc2, some ⟨ib2, 0, none⟩, ic2⟩
  refine ⟨⟨i + 1, some ⟨ob2, 0, none⟩, oc2, m ++ [⟨p.c, some ⟨nb2, 0, none⟩, nc2, some ⟨ib2, 0, none⟩, ic2⟩]⟩, ⟨⟨by omega, ?_, ?_, (fun h => by cases h), by omega⟩, ?_⟩, by show l.length - (i + 1) < l.length - i; omega, ?_, _, ((famPut 2 4 rfl rfl rfl (List.perm_append_singleton _ _).symm).trans (famPut 2 5 rfl rfl rfl (List.perm_append_singleton _ _).symm)).s, ?_⟩
  ·rw [List.take_add_one, hp, List.map_append, List.map_append, hmc]
   rfl
  ·intro q hq
   rcases List.mem_append.1 hq with hq | hq
   ·exact hmo q hq
   ·rw [List.mem_singleton.1 hq]
    exact ⟨(fun h => by cases h), (fun h => by cases h), hpo.nl, hpo.il, hpo.nw, hpo.tl, by show p.c.names.length ≤ nc2; omega, by show p.c.items.length ≤ ic2; omega⟩
  ·intro q hq
   rcases List.mem_append.1 hq with hq | hq
   ·exact hom q hq
   ·rw [List.mem_singleton.1 hq]
    exact ⟨fun ad h => by cases h; rfl, fun ad h => by cases h; rfl⟩
  ·(repeat' (first | exact trivial | refine And.intro (by with_reducible rfl) ?_ | (with_reducible exact wkC_refl _) | (with_reducible exact wkCs_refl _) | refine And.intro ?_ ?_))
   all_goals first | rfl | exact av_int (by omega) | (rw [hm2])
  ·show wkH _ [Ent.fact (GrF a l), .app 87 5 (grC (m ++ [_])) _ (m ++ [_]).length _, famE (rowsG (m ++ [_]))]
   rw [← hm2, hg2, hrw]
   refine ⟨wkE_refl _, wkE_refl _, ?_, trivial⟩
   rw [show rowsP (⟨p.c, some ⟨nb2, 0, none⟩, nc2, some ⟨ib2, 0, none⟩, ic2⟩ : CellP) = [⟨9, 1, p.c.names.length, strC p.c.names, nb2, nc2⟩] ++ [⟨3, 1, p.c.items.length, iC p.c.items, ib2, ic2⟩] from rfl, ← List.append_assoc]
   exact wkE_refl _
 ·have hil : i = l.length := by omega
  subst hil
  rw [List.take_length] at hmc
  (first | refine wX ?_ | exact wZ)
  exact ⟨⟨l.length, oa, oc, m⟩, ⟨hoa, hmc, hmo, hom, hoc⟩, rfl, trivial, wkE_refl _, wkE_refl _, trivial⟩
end Go.Proofs.YtgogonnnojcioaaGreatDoor

/-
 Contract: the graphs that numbers make (law).
-/
namespace Go.Proofs.YtgogonnnojcioaaGreatDoor
open Go.AX Go.RowKit Go.Core
set_option maxRecDepth 20000

structure GrwC (n : Nat) (p : CellP) : Prop where
 ok : CellOk p
 it : ∀ y ∈ p.c.items, 0 ≤ y
 il : p.c.items.length ≤ 4
 nl : p.c.names.length ≤ 2
 tl : p.c.text.length ≤ 2
theorem grw_plain (n : Nat) (k nu : Int) (t : List UInt8) (ht : t.length ≤ 2) : GrwC n ⟨⟨k, nu, t, [], []⟩, none, 0, none, 0⟩ :=
 ⟨⟨fun _ => rfl, fun _ => rfl, Nat.zero_le _, Nat.zero_le _, (fun s h => (by cases h)), (by show t.length ≤ _; omega), Nat.le_refl _, Nat.le_refl _⟩, (fun y h => (by cases h)), Nat.zero_le _, Nat.zero_le _, ht⟩
theorem grw_item (x : Int) (k d e n : Nat) (hx : 0 ≤ x ∧ x ≤ 2049638230412172402) (hk : k ≤ 3) (hd : 1 ≤ d) (he : e ≤ 10) : 0 ≤ (IntKind.i64.wrap (IntKind.u64.wrap (IntKind.u64.wrap (x.tdiv (d : Int)) + IntKind.u64.wrap (IntKind.u64.wrap (k : Int) * (e : Int))))).tmod (n : Int) := by
 have h1 : 0 ≤ x.tdiv (d : Int) ∧ x.tdiv (d : Int) ≤ x := by
  rw [Int.tdiv_eq_ediv_of_nonneg hx.1]
  exact ⟨Int.ediv_nonneg hx.1 (by omega), Int.ediv_le_self _ hx.1⟩
 have h2 : 0 ≤ (k : Int) * (e : Int) ∧ (k : Int) * (e : Int) ≤ 30 := by
  have := Nat.mul_le_mul hk he
  rw [← Int.natCast_mul]
  omega
 rw [wrap_u64 (x := x.tdiv (d : Int)) (by omega), wrap_u64 (x := (k : Int)) (by omega), wrap_u64 (x := (k : Int) * (e : Int)) (by omega), wrap_u64 (by omega), wrap_i64 (by omega)]
 exact Int.tmod_nonneg _ (by omega)
def setI (p : CellP) (its : List Int) (ia : Option Addr) (ic : Nat) : CellP := ⟨{ p.c with items := its }, p.na, p.nc, ia, ic⟩
theorem grC_set : ∀ {m : List CellP} {j : Nat} {p : CellP} (its : List Int) (ia : Option Addr) (ic : Nat), m[j]? = some p → (grC m).set (j * 5 + 4) (.slice ia its.length ic) = grC (m.set j (setI p its ia ic))
 | [], _, _, _, _, _, h => by cases h
 | q :: m, 0, p, its, ia, ic, h => by
  obtain rfl := Option.some.inj h
  rfl
 | q :: m, j + 1, p, its, ia, ic, h => by
  have ih := grC_set its ia ic (show m[j]? = some p from h)
  have e : ∀ q : CellP, grC (q :: m) = cellC q ++ grC m := fun q => by unfold grC; rw [List.flatMap_cons]
  rw [e, List.set_cons_succ, show (j + 1) * 5 + 4 = (j * 5 + 4) + 5 by omega]
  have e2 : grC (q :: m.set j (setI p its ia ic)) = cellC q ++ grC (m.set j (setI p its ia ic)) := by unfold grC; rw [List.flatMap_cons]
  rw [e2, ← ih]
  rfl
theorem SlAt.take {a : Option Addr} {k j : Nat} {xs : List Value} {w : World} (h : SlAt a k xs w) (hj : j ≤ k) : SlAt a j (xs.take j) w :=
 ⟨by rw [List.length_take, h.1]; omega, fun h0 => h.2.1 (by omega), fun i hi => by rw [h.2.2 i (by omega), List.getElem?_take_of_lt hi]⟩
theorem grw_set {n : Nat} {m : List CellP} (h : ∀ p ∈ m, GrwC n p) {j : Nat} {p : CellP} (hp : p ∈ m) {its : List Int} (b ic : Nat) (h0 : ∀ y ∈ its, 0 ≤ y) (hl : its.length ≤ 4) (hc : its.length ≤ ic) : ∀ q ∈ m.set j (setI p its (some ⟨b, 0, none⟩) ic), GrwC n q := fun q hq => by
 rcases List.mem_or_eq_of_mem_set hq with hq | rfl
 ·exact h q hq
 ·have g := h p hp
  exact ⟨⟨g.ok.na, (fun h => by cases h), g.ok.nl, (by show its.length ≤ _; omega), g.ok.nw, g.ok.tl, g.ok.nb, hc⟩, h0, hl, g.nl, g.tl⟩
theorem grw_small {n : Nat} {m : List CellP} (h : ∀ p ∈ m, GrwC n p) (hl : m.length ≤ 12) : Small m :=
 ⟨by omega, fun p hp => ⟨by have := (h p hp).nl; omega, by have := (h p hp).il; omega⟩⟩
theorem Valid_b (a : Option Addr) (ca : Nat) (l : List CellP) (ha : a = none → l = []) (hl : l.length ≤ 200000000000000) (hok : ∀ p ∈ l, CellOk p) :
  ∃ b : Bool, (b = true ↔ ValidP (l.map (·.c))) ∧ ∀ H, (∀ w, Facts H w → GrF a l w) → SpecH Tryz.prog 31 (pvs [.slice a l.length ca]) H (Ret (.bool b) H) := by
 obtain ⟨b, hb⟩ : ∃ b : Bool, b = true ↔ ValidP (l.map (·.c)) := by
  by_cases h : ValidP (l.map (·.c))
  ·exact ⟨true, fun _ => h, fun _ => rfl⟩
  ·exact ⟨false, (fun h => by cases h), fun h2 => absurd h2 h⟩
 refine ⟨b, hb, fun H hH => ?_⟩
 obtain ⟨b2, hb2, h⟩ := Valid_c a ca l ha hl hok H hH
 obtain rfl : b2 = b := by rw [Bool.eq_iff_iff, hb, hb2]
 exact h
theorem set_rows {m : List CellP} {j : Nat} {p : CellP} (hp : p ∈ m) {its : List Int} {ia : Option Addr} {ic : Nat} {w : World} (h : ∀ q ∈ m, CellF q w) (hi : SlAt ia (its.length * 1) (iC its) w) : ∀ q ∈ m.set j (setI p its ia ic), CellF q w := fun q hq => by
 rcases List.mem_or_eq_of_mem_set hq with hq | rfl
 ·exact h q hq
 ·exact ⟨(h p hp).1, hi⟩
def GrwR (v : Value) (G : World → Prop) : Prop := ∃ (oa : Option Addr) (oc : Nat) (m : List CellP), v = .slice oa m.length oc ∧ (oa = none → m = []) ∧ (∀ p ∈ m, CellOk p) ∧ Small m ∧ (m = [] ∨ ValidP (m.map (·.c))) ∧ (m.length ≤ 12 ∧ ∀ p ∈ m, p.c.items.length ≤ 4 ∧ p.c.names.length ≤ 2 ∧ p.c.text.length ≤ 2) ∧ ∀ w, G w → GrF oa m w
structure GSt where
 i : Nat
 ob : Option Nat
 oc : Nat
 m : List CellP
set_option maxHeartbeats 4000000 in
theorem Grown_c (a : Option Addr) (ca : Nat) (L : List Int) (ha : a = none → L = []) (hl : L.length ≤ 200000000000000) : SpecF Tryz.prog 12 [.slice a L.length ca] (fun w => SlAt a (L.length * 1) (iC L) w) GrwR := by
 refine specF hm Tryz.func12 (by kernel_rfl) rfl rfl ?_
 (first | refine wX ?_ | exact wZ)
 obtain ⟨n, hn⟩ : ∃ n, n = min L.length 12 := ⟨_, rfl⟩
 refine LoopN.introS GSt (fun ⟨i, ob, oc, m⟩ => i ≤ n ∧ m.length = i ∧ (∀ p ∈ m, GrwC n p) ∧ (ob = none → m = []) ∧ m.length ≤ oc) (fun ⟨i, ob, oc, m⟩ => mkS Tryz.f12.ntmps 0 [(0, .c (.v (.slice a L.length ca))), (3, .c (.v (.int .i64 (n : Int)))), (4, .c (.v (.slice (at0 ob) m.length oc))), (5, .c (.v (.int .i64 (i : Int))))]) (fun ⟨i, ob, oc, m⟩ => [.fact (fun w => SlAt a (L.length * 1) (iC L) w), .app 57 5 (grC m) (at0 ob) m.length oc, .fact (fun w => ∀ p ∈ m, CellF p w)]) (fun ⟨i, _, _, _⟩ => n - i) [.app 57 5 [] none 0 0, .dead] rfl (fun _ => rfl) (fun _ => rfl) (fun _ _ => ⟨trivial, trivial, trivial, trivial⟩) ?_ ?_
 ·refine ⟨⟨0, none, 0, []⟩, ⟨Nat.zero_le _, rfl, (fun p h => by cases h), (fun _ => rfl), Nat.le_refl _⟩, ?_, [.fact (fun w => SlAt a (L.length * 1) (iC L) w), .app 57 5 [] none 0 0, .fact (fun w => ∀ p ∈ [], CellF p w)], turnS ⟨.inr (.inl rfl), .inr (.inl rfl), .inr (.inr ⟨_, rfl, fun w _ p hp => by cases hp⟩), trivial⟩, wkH_refl _⟩
  (repeat' (first | exact trivial | refine And.intro (by with_reducible rfl) ?_ | (with_reducible exact wkC_refl _) | (with_reducible exact wkCs_refl _) | refine And.intro ?_ ?_))
  all_goals first | rfl | exact av_int (by rw [hn]; unfold Go.AX.minI; split <;> omega)
 rintro ⟨i, ob, oc, m⟩ ⟨hi, hml, hmo, hoa, hoc⟩
 (first | refine wX ?_ | exact wZ)
 refine brd_dec (fun h1 => ?_) (fun h1 => ?_)
 ·obtain ⟨z, hz⟩ : ∃ z, L[i]? = some z := ⟨_, List.getElem?_eq_getElem (by omega)⟩
  have hsa : a.isSome = true := by
   cases a with
   | none => rw [ha rfl] at hz; cases hz
   | some b => rfl
  (first | refine wX ?_ | exact wZ)
  refine Nd.mk ⟨hsa, by omega, by omega⟩ ?_
  (first | refine wX ?_ | exact wZ)
  refine LdN.one (.int .i64 z) rfl (fun w hw => hw.1) (by rw [Int.toNat_natCast]; show (iC L)[i * 1]? = _; rw [Nat.mul_one]; exact iC_get hz) ?_
  (first | refine wX ?_ | exact wZ)
  have hXb := wrap_u64_bd z
  generalize IntKind.u64.wrap z = X at *
  have hx0 : IntKind.u64.wrap (X.tdiv 9) = X / 9 := by rw [Int.tdiv_eq_ediv_of_nonneg (by omega)]; exact wrap_u64 (by omega)
  have hk0 : IntKind.i64.wrap (X.tmod 9) = X % 9 := by rw [Int.tmod_eq_emod_of_nonneg (by omega)]; exact wrap_i64 (by omega)
  rw [hx0, hk0]
  obtain ⟨x, hx⟩ : ∃ x, x = X / 9 := ⟨_, rfl⟩
  obtain ⟨kd, hkd⟩ : ∃ kd, kd = X % 9 := ⟨_, rfl⟩
  rw [← hx, ← hkd]
  have hxb : 0 ≤ x ∧ x ≤ 2049638230412172402 := by omega
  have hkb : 0 ≤ kd ∧ kd ≤ 8 := by omega
  clear hx0 hk0
  have hkk : kd = 0 ∨ kd = 1 ∨ kd = 2 ∨ kd = 3 ∨ kd = 4 ∨ kd = 5 ∨ kd = 6 ∨ kd = 7 ∨ kd = 8 := by omega
  clear hkd hkb hXb
  rcases hkk with rfl | rfl | rfl | rfl | rfl | rfl | rfl | rfl | rfl
  ·-- the cell is put behind the graph; ⟨⟨0, 0, [], [], []⟩, none, 0, none, 0⟩: the cell, , .dead, .dead: what else is over, ⟨SlAt.nil, SlAt.nil⟩: its rows
   (first | refine wX ?_ | exact wZ)
   try refine Nd.mk ⟨Nat.le_refl 1, rfl, rfl⟩ ?_
   (conv => whnf)
   refine AppN.grow 1 (grC m) (cellC (⟨⟨0, 0, [], [], []⟩, none, 0, none, 0⟩ : CellP)) rfl rfl ⟨Nat.le_refl 1, ⟨by show (m.length + 1) * 80 ≤ _; omega, by omega⟩, by decide⟩ fun ob2 oc2 hoc2 _ => ?_
   (first | refine wX ?_ | exact wZ)
   have hm2 : m.length + 1 = (m ++ [(⟨⟨0, 0, [], [], []⟩, none, 0, none, 0⟩ : CellP)]).length := by simp
   have hg2 := grC_snoc m ⟨⟨0, 0, [], [], []⟩, none, 0, none, 0⟩
   refine ⟨⟨i + 1, some ob2, oc2, m ++ [⟨⟨0, 0, [], [], []⟩, none, 0, none, 0⟩]⟩, ⟨by omega, by rw [← hm2, hml], ?_, (fun h => by cases h), by rw [← hm2]; exact hoc2⟩, by show n - (i + 1) < n - i; omega, ?_, [.fact (fun w => SlAt a (L.length * 1) (iC L) w), .app 57 5 (grC m ++ cellC ⟨⟨0, 0, [], [], []⟩, none, 0, none, 0⟩) (some ⟨ob2, 0, none⟩) (m.length + 1) oc2, .fact (fun w => ∀ q ∈ m ++ [(⟨⟨0, 0, [], [], []⟩, none, 0, none, 0⟩ : CellP)], CellF q w), .dead, .dead], turnS ⟨.inr (.inl rfl), .inr (.inl rfl), .inr (.inr ⟨_, rfl, fun w hw q hq => ?_⟩), by repeat (first | exact trivial | refine ⟨.inl rfl, ?_⟩)⟩, ?_⟩
   ·intro q hq
    rcases List.mem_append.1 hq with hq | hq
    ·exact hmo q hq
    ·rw [List.mem_singleton.1 hq]
     exact grw_plain n _ _ _ (by decide)
   ·(repeat' (first | exact trivial | refine And.intro (by with_reducible rfl) ?_ | (with_reducible exact wkC_refl _) | (with_reducible exact wkCs_refl _) | refine And.intro ?_ ?_))
    all_goals first | rfl | exact av_int (by rw [wrap_i64 (by omega)]; omega) | (rw [hm2]; rfl)
   ·rcases List.mem_append.1 hq with hq | hq
    ·exact hw.2.1 q hq
    ·rw [List.mem_singleton.1 hq]
     exact ⟨SlAt.nil, SlAt.nil⟩
   ·show wkH _ [Ent.fact _, .app 57 5 (grC (m ++ [_])) _ (m ++ [_]).length _, _]
    rw [← hm2, hg2]
    exact ⟨wkE_refl _, wkE_refl _, wkE_refl _, trivial⟩
  ·-- the cell is put behind the graph; ⟨⟨1, 0, [], [], []⟩, none, 0, none, 0⟩: the cell, , .dead, .dead: what else is over, ⟨SlAt.nil, SlAt.nil⟩: its rows
   (first | refine wX ?_ | exact wZ)
   try refine Nd.mk ⟨Nat.le_refl 1, rfl, rfl⟩ ?_
   (conv => whnf)
   refine AppN.grow 1 (grC m) (cellC (⟨⟨1, 0, [], [], []⟩, none, 0, none, 0⟩ : CellP)) rfl rfl ⟨Nat.le_refl 1, ⟨by show (m.length + 1) * 80 ≤ _; omega, by omega⟩, by decide⟩ fun ob2 oc2 hoc2 _ => ?_
   (first | refine wX ?_ | exact wZ)
   have hm2 : m.length + 1 = (m ++ [(⟨⟨1, 0, [], [], []⟩, none, 0, none, 0⟩ : CellP)]).length := by simp
   have hg2 := grC_snoc m ⟨⟨1, 0, [], [], []⟩, none, 0, none, 0⟩
   refine ⟨⟨i + 1, some ob2, oc2, m ++ [⟨⟨1, 0, [], [], []⟩, none, 0, none, 0⟩]⟩, ⟨by omega, by rw [← hm2, hml], ?_, (fun h => by cases h), by rw [← hm2]; exact hoc2⟩, by show n - (i + 1) < n - i; omega, ?_, [.fact (fun w => SlAt a (L.length * 1) (iC L) w), .app 57 5 (grC m ++ cellC ⟨⟨1, 0, [], [], []⟩, none, 0, none, 0⟩) (some ⟨ob2, 0, none⟩) (m.length + 1) oc2, .fact (fun w => ∀ q ∈ m ++ [(⟨⟨1, 0, [], [], []⟩, none, 0, none, 0⟩ : CellP)], CellF q w), .dead, .dead], turnS ⟨.inr (.inl rfl), .inr (.inl rfl), .inr (.inr ⟨_, rfl, fun w hw q hq => ?_⟩), by repeat (first | exact trivial | refine ⟨.inl rfl, ?_⟩)⟩, ?_⟩
   ·intro q hq
    rcases List.mem_append.1 hq with hq | hq
    ·exact hmo q hq
    ·rw [List.mem_singleton.1 hq]
     exact grw_plain n _ _ _ (by decide)
   ·(repeat' (first | exact trivial | refine And.intro (by with_reducible rfl) ?_ | (with_reducible exact wkC_refl _) | (with_reducible exact wkCs_refl _) | refine And.intro ?_ ?_))
    all_goals first | rfl | exact av_int (by rw [wrap_i64 (by omega)]; omega) | (rw [hm2]; rfl)
   ·rcases List.mem_append.1 hq with hq | hq
    ·exact hw.2.1 q hq
    ·rw [List.mem_singleton.1 hq]
     exact ⟨SlAt.nil, SlAt.nil⟩
   ·show wkH _ [Ent.fact _, .app 57 5 (grC (m ++ [_])) _ (m ++ [_]).length _, _]
    rw [← hm2, hg2]
    exact ⟨wkE_refl _, wkE_refl _, wkE_refl _, trivial⟩
  ·-- the cell is put behind the graph; ⟨⟨2, 0, [], [], []⟩, none, 0, none, 0⟩: the cell, , .dead, .dead: what else is over, ⟨SlAt.nil, SlAt.nil⟩: its rows
   (first | refine wX ?_ | exact wZ)
   try refine Nd.mk ⟨Nat.le_refl 1, rfl, rfl⟩ ?_
   (conv => whnf)
   refine AppN.grow 1 (grC m) (cellC (⟨⟨2, 0, [], [], []⟩, none, 0, none, 0⟩ : CellP)) rfl rfl ⟨Nat.le_refl 1, ⟨by show (m.length + 1) * 80 ≤ _; omega, by omega⟩, by decide⟩ fun ob2 oc2 hoc2 _ => ?_
   (first | refine wX ?_ | exact wZ)
   have hm2 : m.length + 1 = (m ++ [(⟨⟨2, 0, [], [], []⟩, none, 0, none, 0⟩ : CellP)]).length := by simp
   have hg2 := grC_snoc m ⟨⟨2, 0, [], [], []⟩, none, 0, none, 0⟩
   refine ⟨⟨i + 1, some ob2, oc2, m ++ [⟨⟨2, 0, [], [], []⟩, none, 0, none, 0⟩]⟩, ⟨by omega, by rw [← hm2, hml], ?_, (fun h => by cases h), by rw [← hm2]; exact hoc2⟩, by show n - (i + 1) < n - i; omega, ?_, [.fact (fun w => SlAt a (L.length * 1) (iC L) w), .app 57 5 (grC m ++ cellC ⟨⟨2, 0, [], [], []⟩, none, 0, none, 0⟩) (some ⟨ob2, 0, none⟩) (m.length + 1) oc2, .fact (fun w => ∀ q ∈ m ++ [(⟨⟨2, 0, [], [], []⟩, none, 0, none, 0⟩ : CellP)], CellF q w), .dead, .dead], turnS ⟨.inr (.inl rfl), .inr (.inl rfl), .inr (.inr ⟨_, rfl, fun w hw q hq => ?_⟩), by repeat (first | exact trivial | refine ⟨.inl rfl, ?_⟩)⟩, ?_⟩
   ·intro q hq
    rcases List.mem_append.1 hq with hq | hq
    ·exact hmo q hq
    ·rw [List.mem_singleton.1 hq]
     exact grw_plain n _ _ _ (by decide)
   ·(repeat' (first | exact trivial | refine And.intro (by with_reducible rfl) ?_ | (with_reducible exact wkC_refl _) | (with_reducible exact wkCs_refl _) | refine And.intro ?_ ?_))
    all_goals first | rfl | exact av_int (by rw [wrap_i64 (by omega)]; omega) | (rw [hm2]; rfl)
   ·rcases List.mem_append.1 hq with hq | hq
    ·exact hw.2.1 q hq
    ·rw [List.mem_singleton.1 hq]
     exact ⟨SlAt.nil, SlAt.nil⟩
   ·show wkH _ [Ent.fact _, .app 57 5 (grC (m ++ [_])) _ (m ++ [_]).length _, _]
    rw [← hm2, hg2]
    exact ⟨wkE_refl _, wkE_refl _, wkE_refl _, trivial⟩
  ·(first | refine wX ?_ | exact wZ)
   generalize IntKind.i64.wrap (IntKind.i64.wrap (x.tmod 5) - 2) = nu at *
   (first | refine wX ?_ | exact wZ)
   try refine Nd.mk ⟨Nat.le_refl 1, rfl, rfl⟩ ?_
   (conv => whnf)
   refine AppN.grow 1 (grC m) (cellC (⟨⟨3, nu, [], [], []⟩, none, 0, none, 0⟩ : CellP)) rfl rfl ⟨Nat.le_refl 1, ⟨by show (m.length + 1) * 80 ≤ _; omega, by omega⟩, by decide⟩ fun ob2 oc2 hoc2 _ => ?_
   (first | refine wX ?_ | exact wZ)
   have hm2 : m.length + 1 = (m ++ [(⟨⟨3, nu, [], [], []⟩, none, 0, none, 0⟩ : CellP)]).length := by simp
   have hg2 := grC_snoc m ⟨⟨3, nu, [], [], []⟩, none, 0, none, 0⟩
   refine ⟨⟨i + 1, some ob2, oc2, m ++ [⟨⟨3, nu, [], [], []⟩, none, 0, none, 0⟩]⟩, ⟨by omega, by rw [← hm2, hml], ?_, (fun h => by cases h), by rw [← hm2]; exact hoc2⟩, by show n - (i + 1) < n - i; omega, ?_, [.fact (fun w => SlAt a (L.length * 1) (iC L) w), .app 57 5 (grC m ++ cellC ⟨⟨3, nu, [], [], []⟩, none, 0, none, 0⟩) (some ⟨ob2, 0, none⟩) (m.length + 1) oc2, .fact (fun w => ∀ q ∈ m ++ [(⟨⟨3, nu, [], [], []⟩, none, 0, none, 0⟩ : CellP)], CellF q w), .dead, .dead], turnS ⟨.inr (.inl rfl), .inr (.inl rfl), .inr (.inr ⟨_, rfl, fun w hw q hq => ?_⟩), by repeat (first | exact trivial | refine ⟨.inl rfl, ?_⟩)⟩, ?_⟩
   ·intro q hq
    rcases List.mem_append.1 hq with hq | hq
    ·exact hmo q hq
    ·rw [List.mem_singleton.1 hq]
     exact grw_plain n _ _ _ (by decide)
   ·(repeat' (first | exact trivial | refine And.intro (by with_reducible rfl) ?_ | (with_reducible exact wkC_refl _) | (with_reducible exact wkCs_refl _) | refine And.intro ?_ ?_))
    all_goals first | rfl | exact av_int (by rw [wrap_i64 (by omega)]; omega) | (rw [hm2]; rfl)
   ·rcases List.mem_append.1 hq with hq | hq
    ·exact hw.2.1 q hq
    ·rw [List.mem_singleton.1 hq]
     exact ⟨SlAt.nil, SlAt.nil⟩
   ·show wkH _ [Ent.fact _, .app 57 5 (grC (m ++ [_])) _ (m ++ [_]).length _, _]
    rw [← hm2, hg2]
    exact ⟨wkE_refl _, wkE_refl _, wkE_refl _, trivial⟩
  ·(first | refine wX ?_ | exact wZ)
   rw [show x.tmod 4 = x % 4 by rw [Int.tmod_eq_emod_of_nonneg (by omega)]]
   have hj : x % 4 = 0 ∨ x % 4 = 1 ∨ x % 4 = 2 ∨ x % 4 = 3 := by omega
   rcases hj with e | e | e | e <;> rw [e]
   ·-- the cell is put behind the graph; ⟨⟨4, 0, [97], [], []⟩, none, 0, none, 0⟩: the cell, , .dead, .dead, .dead: what else is over, ⟨SlAt.nil, SlAt.nil⟩: its rows
    (first | refine wX ?_ | exact wZ)
    try refine Nd.mk ⟨Nat.le_refl 1, rfl, rfl⟩ ?_
    (conv => whnf)
    refine AppN.grow 1 (grC m) (cellC (⟨⟨4, 0, [97], [], []⟩, none, 0, none, 0⟩ : CellP)) rfl rfl ⟨Nat.le_refl 1, ⟨by show (m.length + 1) * 80 ≤ _; omega, by omega⟩, by decide⟩ fun ob2 oc2 hoc2 _ => ?_
    (first | refine wX ?_ | exact wZ)
    have hm2 : m.length + 1 = (m ++ [(⟨⟨4, 0, [97], [], []⟩, none, 0, none, 0⟩ : CellP)]).length := by simp
    have hg2 := grC_snoc m ⟨⟨4, 0, [97], [], []⟩, none, 0, none, 0⟩
    refine ⟨⟨i + 1, some ob2, oc2, m ++ [⟨⟨4, 0, [97], [], []⟩, none, 0, none, 0⟩]⟩, ⟨by omega, by rw [← hm2, hml], ?_, (fun h => by cases h), by rw [← hm2]; exact hoc2⟩, by show n - (i + 1) < n - i; omega, ?_, [.fact (fun w => SlAt a (L.length * 1) (iC L) w), .app 57 5 (grC m ++ cellC ⟨⟨4, 0, [97], [], []⟩, none, 0, none, 0⟩) (some ⟨ob2, 0, none⟩) (m.length + 1) oc2, .fact (fun w => ∀ q ∈ m ++ [(⟨⟨4, 0, [97], [], []⟩, none, 0, none, 0⟩ : CellP)], CellF q w), .dead, .dead, .dead], turnS ⟨.inr (.inl rfl), .inr (.inl rfl), .inr (.inr ⟨_, rfl, fun w hw q hq => ?_⟩), by repeat (first | exact trivial | refine ⟨.inl rfl, ?_⟩)⟩, ?_⟩
    ·intro q hq
     rcases List.mem_append.1 hq with hq | hq
     ·exact hmo q hq
     ·rw [List.mem_singleton.1 hq]
      exact grw_plain n _ _ _ (by decide)
    ·(repeat' (first | exact trivial | refine And.intro (by with_reducible rfl) ?_ | (with_reducible exact wkC_refl _) | (with_reducible exact wkCs_refl _) | refine And.intro ?_ ?_))
     all_goals first | rfl | exact av_int (by rw [wrap_i64 (by omega)]; omega) | (rw [hm2]; rfl)
    ·rcases List.mem_append.1 hq with hq | hq
     ·exact hw.2.1 q hq
     ·rw [List.mem_singleton.1 hq]
      exact ⟨SlAt.nil, SlAt.nil⟩
    ·show wkH _ [Ent.fact _, .app 57 5 (grC (m ++ [_])) _ (m ++ [_]).length _, _]
     rw [← hm2, hg2]
     exact ⟨wkE_refl _, wkE_refl _, wkE_refl _, trivial⟩
   ·-- the cell is put behind the graph; ⟨⟨4, 0, [98], [], []⟩, none, 0, none, 0⟩: the cell, , .dead, .dead, .dead: what else is over, ⟨SlAt.nil, SlAt.nil⟩: its rows
    (first | refine wX ?_ | exact wZ)
    try refine Nd.mk ⟨Nat.le_refl 1, rfl, rfl⟩ ?_
    (conv => whnf)
    refine AppN.grow 1 (grC m) (cellC (⟨⟨4, 0, [98], [], []⟩, none, 0, none, 0⟩ : CellP)) rfl rfl ⟨Nat.le_refl 1, ⟨by show (m.length + 1) * 80 ≤ _; omega, by omega⟩, by decide⟩ fun ob2 oc2 hoc2 _ => ?_
    (first | refine wX ?_ | exact wZ)
    have hm2 : m.length + 1 = (m ++ [(⟨⟨4, 0, [98], [], []⟩, none, 0, none, 0⟩ : CellP)]).length := by simp
    have hg2 := grC_snoc m ⟨⟨4, 0, [98], [], []⟩, none, 0, none, 0⟩
    refine ⟨⟨i + 1, some ob2, oc2, m ++ [⟨⟨4, 0, [98], [], []⟩, none, 0, none, 0⟩]⟩, ⟨by omega, by rw [← hm2, hml], ?_, (fun h => by cases h), by rw [← hm2]; exact hoc2⟩, by show n - (i + 1) < n - i; omega, ?_, [.fact (fun w => SlAt a (L.length * 1) (iC L) w), .app 57 5 (grC m ++ cellC ⟨⟨4, 0, [98], [], []⟩, none, 0, none, 0⟩) (some ⟨ob2, 0, none⟩) (m.length + 1) oc2, .fact (fun w => ∀ q ∈ m ++ [(⟨⟨4, 0, [98], [], []⟩, none, 0, none, 0⟩ : CellP)], CellF q w), .dead, .dead, .dead], turnS ⟨.inr (.inl rfl), .inr (.inl rfl), .inr (.inr ⟨_, rfl, fun w hw q hq => ?_⟩), by repeat (first | exact trivial | refine ⟨.inl rfl, ?_⟩)⟩, ?_⟩
    ·intro q hq
     rcases List.mem_append.1 hq with hq | hq
     ·exact hmo q hq
     ·rw [List.mem_singleton.1 hq]
      exact grw_plain n _ _ _ (by decide)
    ·(repeat' (first | exact trivial | refine And.intro (by with_reducible rfl) ?_ | (with_reducible exact wkC_refl _) | (with_reducible exact wkCs_refl _) | refine And.intro ?_ ?_))
     all_goals first | rfl | exact av_int (by rw [wrap_i64 (by omega)]; omega) | (rw [hm2]; rfl)
    ·rcases List.mem_append.1 hq with hq | hq
     ·exact hw.2.1 q hq
     ·rw [List.mem_singleton.1 hq]
      exact ⟨SlAt.nil, SlAt.nil⟩
    ·show wkH _ [Ent.fact _, .app 57 5 (grC (m ++ [_])) _ (m ++ [_]).length _, _]
     rw [← hm2, hg2]
     exact ⟨wkE_refl _, wkE_refl _, wkE_refl _, trivial⟩
   ·-- the cell is put behind the graph; ⟨⟨4, 0, [35], [], []⟩, none, 0, none, 0⟩: the cell, , .dead, .dead, .dead: what else is over, ⟨SlAt.nil, SlAt.nil⟩: its rows
    (first | refine wX ?_ | exact wZ)
    try refine Nd.mk ⟨Nat.le_refl 1, rfl, rfl⟩ ?_
    (conv => whnf)
    refine AppN.grow 1 (grC m) (cellC (⟨⟨4, 0, [35], [], []⟩, none, 0, none, 0⟩ : CellP)) rfl rfl ⟨Nat.le_refl 1, ⟨by show (m.length + 1) * 80 ≤ _; omega, by omega⟩, by decide⟩ fun ob2 oc2 hoc2 _ => ?_
    (first | refine wX ?_ | exact wZ)
    have hm2 : m.length + 1 = (m ++ [(⟨⟨4, 0, [35], [], []⟩, none, 0, none, 0⟩ : CellP)]).length := by simp
    have hg2 := grC_snoc m ⟨⟨4, 0, [35], [], []⟩, none, 0, none, 0⟩
    refine ⟨⟨i + 1, some ob2, oc2, m ++ [⟨⟨4, 0, [35], [], []⟩, none, 0, none, 0⟩]⟩, ⟨by omega, by rw [← hm2, hml], ?_, (fun h => by cases h), by rw [← hm2]; exact hoc2⟩, by show n - (i + 1) < n - i; omega, ?_, [.fact (fun w => SlAt a (L.length * 1) (iC L) w), .app 57 5 (grC m ++ cellC ⟨⟨4, 0, [35], [], []⟩, none, 0, none, 0⟩) (some ⟨ob2, 0, none⟩) (m.length + 1) oc2, .fact (fun w => ∀ q ∈ m ++ [(⟨⟨4, 0, [35], [], []⟩, none, 0, none, 0⟩ : CellP)], CellF q w), .dead, .dead, .dead], turnS ⟨.inr (.inl rfl), .inr (.inl rfl), .inr (.inr ⟨_, rfl, fun w hw q hq => ?_⟩), by repeat (first | exact trivial | refine ⟨.inl rfl, ?_⟩)⟩, ?_⟩
    ·intro q hq
     rcases List.mem_append.1 hq with hq | hq
     ·exact hmo q hq
     ·rw [List.mem_singleton.1 hq]
      exact grw_plain n _ _ _ (by decide)
    ·(repeat' (first | exact trivial | refine And.intro (by with_reducible rfl) ?_ | (with_reducible exact wkC_refl _) | (with_reducible exact wkCs_refl _) | refine And.intro ?_ ?_))
     all_goals first | rfl | exact av_int (by rw [wrap_i64 (by omega)]; omega) | (rw [hm2]; rfl)
    ·rcases List.mem_append.1 hq with hq | hq
     ·exact hw.2.1 q hq
     ·rw [List.mem_singleton.1 hq]
      exact ⟨SlAt.nil, SlAt.nil⟩
    ·show wkH _ [Ent.fact _, .app 57 5 (grC (m ++ [_])) _ (m ++ [_]).length _, _]
     rw [← hm2, hg2]
     exact ⟨wkE_refl _, wkE_refl _, wkE_refl _, trivial⟩
   ·-- the cell is put behind the graph; ⟨⟨4, 0, [97, 97], [], []⟩, none, 0, none, 0⟩: the cell, , .dead, .dead, .dead: what else is over, ⟨SlAt.nil, SlAt.nil⟩: its rows
    (first | refine wX ?_ | exact wZ)
    try refine Nd.mk ⟨Nat.le_refl 1, rfl, rfl⟩ ?_
    (conv => whnf)
    refine AppN.grow 1 (grC m) (cellC (⟨⟨4, 0, [97, 97], [], []⟩, none, 0, none, 0⟩ : CellP)) rfl rfl ⟨Nat.le_refl 1, ⟨by show (m.length + 1) * 80 ≤ _; omega, by omega⟩, by decide⟩ fun ob2 oc2 hoc2 _ => ?_
    (first | refine wX ?_ | exact wZ)
    have hm2 : m.length + 1 = (m ++ [(⟨⟨4, 0, [97, 97], [], []⟩, none, 0, none, 0⟩ : CellP)]).length := by simp
    have hg2 := grC_snoc m ⟨⟨4, 0, [97, 97], [], []⟩, none, 0, none, 0⟩
    refine ⟨⟨i + 1, some ob2, oc2, m ++ [⟨⟨4, 0, [97, 97], [], []⟩, none, 0, none, 0⟩]⟩, ⟨by omega, by rw [← hm2, hml], ?_, (fun h => by cases h), by rw [← hm2]; exact hoc2⟩, by show n - (i + 1) < n - i; omega, ?_, [.fact (fun w => SlAt a (L.length * 1) (iC L) w), .app 57 5 (grC m ++ cellC ⟨⟨4, 0, [97, 97], [], []⟩, none, 0, none, 0⟩) (some ⟨ob2, 0, none⟩) (m.length + 1) oc2, .fact (fun w => ∀ q ∈ m ++ [(⟨⟨4, 0, [97, 97], [], []⟩, none, 0, none, 0⟩ : CellP)], CellF q w), .dead, .dead, .dead], turnS ⟨.inr (.inl rfl), .inr (.inl rfl), .inr (.inr ⟨_, rfl, fun w hw q hq => ?_⟩), by repeat (first | exact trivial | refine ⟨.inl rfl, ?_⟩)⟩, ?_⟩
    ·intro q hq
     rcases List.mem_append.1 hq with hq | hq
     ·exact hmo q hq
     ·rw [List.mem_singleton.1 hq]
      exact grw_plain n _ _ _ (by decide)
    ·(repeat' (first | exact trivial | refine And.intro (by with_reducible rfl) ?_ | (with_reducible exact wkC_refl _) | (with_reducible exact wkCs_refl _) | refine And.intro ?_ ?_))
     all_goals first | rfl | exact av_int (by rw [wrap_i64 (by omega)]; omega) | (rw [hm2]; rfl)
    ·rcases List.mem_append.1 hq with hq | hq
     ·exact hw.2.1 q hq
     ·rw [List.mem_singleton.1 hq]
      exact ⟨SlAt.nil, SlAt.nil⟩
    ·show wkH _ [Ent.fact _, .app 57 5 (grC (m ++ [_])) _ (m ++ [_]).length _, _]
     rw [← hm2, hg2]
     exact ⟨wkE_refl _, wkE_refl _, wkE_refl _, trivial⟩
  ·(first | refine wX ?_ | exact wZ)
   rw [show x.tmod 4 = x % 4 by rw [Int.tmod_eq_emod_of_nonneg (by omega)]]
   have hj : x % 4 = 0 ∨ x % 4 = 1 ∨ x % 4 = 2 ∨ x % 4 = 3 := by omega
   rcases hj with e | e | e | e <;> rw [e]
   ·-- the cell is put behind the graph; ⟨⟨5, 0, [97], [], []⟩, none, 0, none, 0⟩: the cell, , .dead, .dead, .dead: what else is over, ⟨SlAt.nil, SlAt.nil⟩: its rows
    (first | refine wX ?_ | exact wZ)
    try refine Nd.mk ⟨Nat.le_refl 1, rfl, rfl⟩ ?_
    (conv => whnf)
    refine AppN.grow 1 (grC m) (cellC (⟨⟨5, 0, [97], [], []⟩, none, 0, none, 0⟩ : CellP)) rfl rfl ⟨Nat.le_refl 1, ⟨by show (m.length + 1) * 80 ≤ _; omega, by omega⟩, by decide⟩ fun ob2 oc2 hoc2 _ => ?_
    (first | refine wX ?_ | exact wZ)
    have hm2 : m.length + 1 = (m ++ [(⟨⟨5, 0, [97], [], []⟩, none, 0, none, 0⟩ : CellP)]).length := by simp
    have hg2 := grC_snoc m ⟨⟨5, 0, [97], [], []⟩, none, 0, none, 0⟩
    refine ⟨⟨i + 1, some ob2, oc2, m ++ [⟨⟨5, 0, [97], [], []⟩, none, 0, none, 0⟩]⟩, ⟨by omega, by rw [← hm2, hml], ?_, (fun h => by cases h), by rw [← hm2]; exact hoc2⟩, by show n - (i + 1) < n - i; omega, ?_, [.fact (fun w => SlAt a (L.length * 1) (iC L) w), .app 57 5 (grC m ++ cellC ⟨⟨5, 0, [97], [], []⟩, none, 0, none, 0⟩) (some ⟨ob2, 0, none⟩) (m.length + 1) oc2, .fact (fun w => ∀ q ∈ m ++ [(⟨⟨5, 0, [97], [], []⟩, none, 0, none, 0⟩ : CellP)], CellF q w), .dead, .dead, .dead], turnS ⟨.inr (.inl rfl), .inr (.inl rfl), .inr (.inr ⟨_, rfl, fun w hw q hq => ?_⟩), by repeat (first | exact trivial | refine ⟨.inl rfl, ?_⟩)⟩, ?_⟩
    ·intro q hq
     rcases List.mem_append.1 hq with hq | hq
     ·exact hmo q hq
     ·rw [List.mem_singleton.1 hq]
      exact grw_plain n _ _ _ (by decide)
    ·(repeat' (first | exact trivial | refine And.intro (by with_reducible rfl) ?_ | (with_reducible exact wkC_refl _) | (with_reducible exact wkCs_refl _) | refine And.intro ?_ ?_))
     all_goals first | rfl | exact av_int (by rw [wrap_i64 (by omega)]; omega) | (rw [hm2]; rfl)
    ·rcases List.mem_append.1 hq with hq | hq
     ·exact hw.2.1 q hq
     ·rw [List.mem_singleton.1 hq]
      exact ⟨SlAt.nil, SlAt.nil⟩
    ·show wkH _ [Ent.fact _, .app 57 5 (grC (m ++ [_])) _ (m ++ [_]).length _, _]
     rw [← hm2, hg2]
     exact ⟨wkE_refl _, wkE_refl _, wkE_refl _, trivial⟩
   ·-- the cell is put behind the graph; ⟨⟨5, 0, [98], [], []⟩, none, 0, none, 0⟩: the cell, , .dead, .dead, .dead: what else is over, ⟨SlAt.nil, SlAt.nil⟩: its rows
    (first | refine wX ?_ | exact wZ)
    try refine Nd.mk ⟨Nat.le_refl 1, rfl, rfl⟩ ?_
    (conv => whnf)
    refine AppN.grow 1 (grC m) (cellC (⟨⟨5, 0, [98], [], []⟩, none, 0, none, 0⟩ : CellP)) rfl rfl ⟨Nat.le_refl 1, ⟨by show (m.length + 1) * 80 ≤ _; omega, by omega⟩, by decide⟩ fun ob2 oc2 hoc2 _ => ?_
    (first | refine wX ?_ | exact wZ)
    have hm2 : m.length + 1 = (m ++ [(⟨⟨5, 0, [98], [], []⟩, none, 0, none, 0⟩ : CellP)]).length := by simp
    have hg2 := grC_snoc m ⟨⟨5, 0, [98], [], []⟩, none, 0, none, 0⟩
    refine ⟨⟨i + 1, some ob2, oc2, m ++ [⟨⟨5, 0, [98], [], []⟩, none, 0, none, 0⟩]⟩, ⟨by omega, by rw [← hm2, hml], ?_, (fun h => by cases h), by rw [← hm2]; exact hoc2⟩, by show n - (i + 1) < n - i; omega, ?_, [.fact (fun w => SlAt a (L.length * 1) (iC L) w), .app 57 5 (grC m ++ cellC ⟨⟨5, 0, [98], [], []⟩, none, 0, none, 0⟩) (some ⟨ob2, 0, none⟩) (m.length + 1) oc2, .fact (fun w => ∀ q ∈ m ++ [(⟨⟨5, 0, [98], [], []⟩, none, 0, none, 0⟩ : CellP)], CellF q w), .dead, .dead, .dead], turnS ⟨.inr (.inl rfl), .inr (.inl rfl), .inr (.inr ⟨_, rfl, fun w hw q hq => ?_⟩), by repeat (first | exact trivial | refine ⟨.inl rfl, ?_⟩)⟩, ?_⟩
    ·intro q hq
     rcases List.mem_append.1 hq with hq | hq
     ·exact hmo q hq
     ·rw [List.mem_singleton.1 hq]
      exact grw_plain n _ _ _ (by decide)
    ·(repeat' (first | exact trivial | refine And.intro (by with_reducible rfl) ?_ | (with_reducible exact wkC_refl _) | (with_reducible exact wkCs_refl _) | refine And.intro ?_ ?_))
     all_goals first | rfl | exact av_int (by rw [wrap_i64 (by omega)]; omega) | (rw [hm2]; rfl)
    ·rcases List.mem_append.1 hq with hq | hq
     ·exact hw.2.1 q hq
     ·rw [List.mem_singleton.1 hq]
      exact ⟨SlAt.nil, SlAt.nil⟩
    ·show wkH _ [Ent.fact _, .app 57 5 (grC (m ++ [_])) _ (m ++ [_]).length _, _]
     rw [← hm2, hg2]
     exact ⟨wkE_refl _, wkE_refl _, wkE_refl _, trivial⟩
   ·-- the cell is put behind the graph; ⟨⟨5, 0, [35], [], []⟩, none, 0, none, 0⟩: the cell, , .dead, .dead, .dead: what else is over, ⟨SlAt.nil, SlAt.nil⟩: its rows
    (first | refine wX ?_ | exact wZ)
    try refine Nd.mk ⟨Nat.le_refl 1, rfl, rfl⟩ ?_
    (conv => whnf)
    refine AppN.grow 1 (grC m) (cellC (⟨⟨5, 0, [35], [], []⟩, none, 0, none, 0⟩ : CellP)) rfl rfl ⟨Nat.le_refl 1, ⟨by show (m.length + 1) * 80 ≤ _; omega, by omega⟩, by decide⟩ fun ob2 oc2 hoc2 _ => ?_
    (first | refine wX ?_ | exact wZ)
    have hm2 : m.length + 1 = (m ++ [(⟨⟨5, 0, [35], [], []⟩, none, 0, none, 0⟩ : CellP)]).length := by simp
    have hg2 := grC_snoc m ⟨⟨5, 0, [35], [], []⟩, none, 0, none, 0⟩
    refine ⟨⟨i + 1, some ob2, oc2, m ++ [⟨⟨5, 0, [35], [], []⟩, none, 0, none, 0⟩]⟩, ⟨by omega, by rw [← hm2, hml], ?_, (fun h => by cases h), by rw [← hm2]; exact hoc2⟩, by show n - (i + 1) < n - i; omega, ?_, [.fact (fun w => SlAt a (L.length * 1) (iC L) w), .app 57 5 (grC m ++ cellC ⟨⟨5, 0, [35], [], []⟩, none, 0, none, 0⟩) (some ⟨ob2, 0, none⟩) (m.length + 1) oc2, .fact (fun w => ∀ q ∈ m ++ [(⟨⟨5, 0, [35], [], []⟩, none, 0, none, 0⟩ : CellP)], CellF q w), .dead, .dead, .dead], turnS ⟨.inr (.inl rfl), .inr (.inl rfl), .inr (.inr ⟨_, rfl, fun w hw q hq => ?_⟩), by repeat (first | exact trivial | refine ⟨.inl rfl, ?_⟩)⟩, ?_⟩
    ·intro q hq
     rcases List.mem_append.1 hq with hq | hq
     ·exact hmo q hq
     ·rw [List.mem_singleton.1 hq]
      exact grw_plain n _ _ _ (by decide)
    ·(repeat' (first | exact trivial | refine And.intro (by with_reducible rfl) ?_ | (with_reducible exact wkC_refl _) | (with_reducible exact wkCs_refl _) | refine And.intro ?_ ?_))
     all_goals first | rfl | exact av_int (by rw [wrap_i64 (by omega)]; omega) | (rw [hm2]; rfl)
    ·rcases List.mem_append.1 hq with hq | hq
     ·exact hw.2.1 q hq
     ·rw [List.mem_singleton.1 hq]
      exact ⟨SlAt.nil, SlAt.nil⟩
    ·show wkH _ [Ent.fact _, .app 57 5 (grC (m ++ [_])) _ (m ++ [_]).length _, _]
     rw [← hm2, hg2]
     exact ⟨wkE_refl _, wkE_refl _, wkE_refl _, trivial⟩
   ·-- the cell is put behind the graph; ⟨⟨5, 0, [97, 97], [], []⟩, none, 0, none, 0⟩: the cell, , .dead, .dead, .dead: what else is over, ⟨SlAt.nil, SlAt.nil⟩: its rows
    (first | refine wX ?_ | exact wZ)
    try refine Nd.mk ⟨Nat.le_refl 1, rfl, rfl⟩ ?_
    (conv => whnf)
    refine AppN.grow 1 (grC m) (cellC (⟨⟨5, 0, [97, 97], [], []⟩, none, 0, none, 0⟩ : CellP)) rfl rfl ⟨Nat.le_refl 1, ⟨by show (m.length + 1) * 80 ≤ _; omega, by omega⟩, by decide⟩ fun ob2 oc2 hoc2 _ => ?_
    (first | refine wX ?_ | exact wZ)
    have hm2 : m.length + 1 = (m ++ [(⟨⟨5, 0, [97, 97], [], []⟩, none, 0, none, 0⟩ : CellP)]).length := by simp
    have hg2 := grC_snoc m ⟨⟨5, 0, [97, 97], [], []⟩, none, 0, none, 0⟩
    refine ⟨⟨i + 1, some ob2, oc2, m ++ [⟨⟨5, 0, [97, 97], [], []⟩, none, 0, none, 0⟩]⟩, ⟨by omega, by rw [← hm2, hml], ?_, (fun h => by cases h), by rw [← hm2]; exact hoc2⟩, by show n - (i + 1) < n - i; omega, ?_, [.fact (fun w => SlAt a (L.length * 1) (iC L) w), .app 57 5 (grC m ++ cellC ⟨⟨5, 0, [97, 97], [], []⟩, none, 0, none, 0⟩) (some ⟨ob2, 0, none⟩) (m.length + 1) oc2, .fact (fun w => ∀ q ∈ m ++ [(⟨⟨5, 0, [97, 97], [], []⟩, none, 0, none, 0⟩ : CellP)], CellF q w), .dead, .dead, .dead], turnS ⟨.inr (.inl rfl), .inr (.inl rfl), .inr (.inr ⟨_, rfl, fun w hw q hq => ?_⟩), by repeat (first | exact trivial | refine ⟨.inl rfl, ?_⟩)⟩, ?_⟩
    ·intro q hq
     rcases List.mem_append.1 hq with hq | hq
     ·exact hmo q hq
     ·rw [List.mem_singleton.1 hq]
      exact grw_plain n _ _ _ (by decide)
    ·(repeat' (first | exact trivial | refine And.intro (by with_reducible rfl) ?_ | (with_reducible exact wkC_refl _) | (with_reducible exact wkCs_refl _) | refine And.intro ?_ ?_))
     all_goals first | rfl | exact av_int (by rw [wrap_i64 (by omega)]; omega) | (rw [hm2]; rfl)
    ·rcases List.mem_append.1 hq with hq | hq
     ·exact hw.2.1 q hq
     ·rw [List.mem_singleton.1 hq]
      exact ⟨SlAt.nil, SlAt.nil⟩
    ·show wkH _ [Ent.fact _, .app 57 5 (grC (m ++ [_])) _ (m ++ [_]).length _, _]
     rw [← hm2, hg2]
     exact ⟨wkE_refl _, wkE_refl _, wkE_refl _, trivial⟩
  ·(first | refine wX ?_ | exact wZ)
   have hc4 : IntKind.i64.wrap (x.tmod 4) = x % 4 := by rw [Int.tmod_eq_emod_of_nonneg (by omega)]; exact wrap_i64 (by omega)
   refine LoopN.intro (Nat × List Int × BSt) (fun ⟨k, its, o⟩ => k ≤ 3 ∧ its.length = k ∧ (∀ y ∈ its, 0 ≤ y) ∧ o.ok its.length)
    (fun ⟨k, its, o⟩ => mkS Tryz.f12.ntmps 0 [(0, .c (.v (.slice a L.length ca))), (3, .c (.v (.int .i64 (n : Int)))), (4, .c (.v (.slice (at0 ob) m.length oc))), (5, .c (.v (.int .i64 (i : Int)))), (6, .c (.v (.int .u64 x))), (7, .c (.lp 3 0)), (8, .c (.v (.int .i64 (k : Int))))])
    (fun ⟨k, its, o⟩ => [.fact (fun w => SlAt a (L.length * 1) (iC L) w), .app 57 5 (grC m) (at0 ob) m.length oc, .fact (fun w => ∀ p ∈ m, CellF p w), .blk 57 (vs (cellC ⟨⟨6, 0, [], [], its⟩, none, 0, at0 o.ob, o.cap⟩)), .app 3 1 (iC its) (at0 o.ob) its.length o.cap]) (fun ⟨k, _, _⟩ => 4 - k) [.app 3 1 [] none 0 0] rfl (fun ⟨_, _, _⟩ => rfl) (fun ⟨_, _, _⟩ => rfl) (fun ⟨_, _, _⟩ _ => okHB_eq rfl) ?_ ?_
   ·refine ⟨(0, [], ⟨none, 0⟩), ⟨Nat.zero_le _, rfl, (fun y h => by cases h), fun _ => ⟨rfl, rfl⟩, Nat.le_refl _, fun _ => rfl⟩, ?_, wkE_refl _, wkE_refl _, wkE_refl _, wkE_refl _, wkE_refl _, trivial⟩
    exact wKK
   rintro ⟨k, its, ⟨ob0, ocap⟩⟩ ⟨hk, hil, hip, ho⟩
   (first | refine wX ?_ | exact wZ)
   refine brd_dec (fun h2 => ?_) (fun h2 => ?_)
   ·rw [hc4] at h2
    ((conv => whnf); (repeat ((first | refine VrN.keep ?_ | refine BoxN.own ?_ | refine RwN.own ?_); (conv => whnf))))
    refine DrawN.plan [0, 2, 4, 9] [(1, 1), (3, 1), (5, 1), (6, 1), (7, 1), (8, 1), (10, 1), (11, 0)] [(12, 0), (13, 0), (14, 0)] (by decide +kernel) ?_
    (first | refine wX ?_ | exact wZ)
    have hit := grw_item x k 4 7 n hxb (by omega) (by decide) (by decide)
    simp only [Int.cast_ofNat_Int] at hit
    generalize (IntKind.i64.wrap (IntKind.u64.wrap (IntKind.u64.wrap (x.tdiv 4) + IntKind.u64.wrap (IntKind.u64.wrap (k : Int) * 7)))).tmod (n : Int) = it at *
    refine Nd.mk ⟨Nat.le_refl 1, rfl, rfl⟩ ?_
    (conv => whnf)
    refine AppN.grow 4 (iC its) [.int .i64 it] rfl rfl ⟨Nat.le_refl 1, ⟨by show (its.length + 1) * 8 ≤ _; omega, by show its.length + 1 < _; omega⟩, Nat.one_ne_zero⟩ fun wb wc hwc _ => ?_
    have hcl : iC its ++ [.int .i64 it] = iC (its ++ [it]) := by simp [iC]
    have hll : its.length + 1 = (its ++ [it]).length := by simp
    rw [hcl, hll]
    rw [hll] at hwc
    (first | refine wX ?_ | exact wZ)
    refine ⟨(k + 1, its ++ [it], ⟨some wb, wc⟩), ⟨by omega, by rw [← hll, hil], ?_, (fun h => by cases h), hwc, fun h => by have : wc = 0 := h; omega⟩, by show 4 - (k + 1) < 4 - k; omega, ?_, wkE_refl _, wkE_refl _, wkE_refl _, wkE_refl _, wkE_refl _, trivial⟩
    ·intro y hy
     rcases List.mem_append.1 hy with hy | hy
     ·exact hip y hy
     ·rw [List.mem_singleton.1 hy]; exact hit
    exact wKK
   ·clear hc4
    have hna : at0 ob0 = none → its = [] := fun h => by
     cases ob0 with
     | none => exact List.eq_nil_of_length_eq_zero (ho.1 rfl).1
     | some b => cases h
    have hoc2' : its.length ≤ ocap := ho.2.1
    (first | refine wX ?_ | exact wZ)
    try refine Nd.mk ⟨Nat.le_refl 1, rfl, rfl⟩ ?_
    (conv => whnf)
    refine AppN.grow 1 (grC m) (cellC (⟨⟨6, 0, [], [], its⟩, none, 0, at0 ob0, ocap⟩ : CellP)) rfl rfl ⟨Nat.le_refl 1, ⟨by show (m.length + 1) * 80 ≤ _; omega, by omega⟩, by decide⟩ fun ob2 oc2 hoc2 _ => ?_
    (first | refine wX ?_ | exact wZ)
    have hm2 : m.length + 1 = (m ++ [(⟨⟨6, 0, [], [], its⟩, none, 0, at0 ob0, ocap⟩ : CellP)]).length := by simp
    have hg2 := grC_snoc m ⟨⟨6, 0, [], [], its⟩, none, 0, at0 ob0, ocap⟩
    refine ⟨⟨i + 1, some ob2, oc2, m ++ [⟨⟨6, 0, [], [], its⟩, none, 0, at0 ob0, ocap⟩]⟩, ⟨by omega, by rw [← hm2, hml], ?_, (fun h => by cases h), by rw [← hm2]; exact hoc2⟩, by show n - (i + 1) < n - i; omega, ?_, [.fact (fun w => SlAt a (L.length * 1) (iC L) w), .app 57 5 (grC m ++ cellC ⟨⟨6, 0, [], [], its⟩, none, 0, at0 ob0, ocap⟩) (some ⟨ob2, 0, none⟩) (m.length + 1) oc2, .fact (fun w => ∀ q ∈ m ++ [(⟨⟨6, 0, [], [], its⟩, none, 0, at0 ob0, ocap⟩ : CellP)], CellF q w), .dead, .dead, .dead], turnS ⟨.inr (.inl rfl), .inr (.inl rfl), .inr (.inr ⟨_, rfl, fun w hw q hq => ?_⟩), by repeat (first | exact trivial | refine ⟨.inl rfl, ?_⟩)⟩, ?_⟩
    ·intro q hq
     rcases List.mem_append.1 hq with hq | hq
     ·exact hmo q hq
     ·rw [List.mem_singleton.1 hq]
      exact ⟨⟨fun _ => rfl, hna, Nat.zero_le _, by show its.length ≤ _; omega, (fun s h => (by cases h)), Nat.zero_le _, Nat.le_refl _, hoc2'⟩, hip, by show its.length ≤ 4; omega, Nat.zero_le _, Nat.zero_le _⟩
    ·(repeat' (first | exact trivial | refine And.intro (by with_reducible rfl) ?_ | (with_reducible exact wkC_refl _) | (with_reducible exact wkCs_refl _) | refine And.intro ?_ ?_))
     all_goals first | rfl | exact av_int (by rw [wrap_i64 (by omega)]; omega) | (rw [hm2]; rfl)
    ·rcases List.mem_append.1 hq with hq | hq
     ·exact hw.2.1 q hq
     ·rw [List.mem_singleton.1 hq]
      exact ⟨SlAt.nil, hw.2.2.1⟩
    ·show wkH _ [Ent.fact _, .app 57 5 (grC (m ++ [_])) _ (m ++ [_]).length _, _]
     rw [← hm2, hg2]
     exact ⟨wkE_refl _, wkE_refl _, wkE_refl _, trivial⟩
  ·-- the cell is put behind the graph; ⟨⟨7, 0, [], [], []⟩, none, 0, none, 0⟩: the cell, , .dead, .dead: what else is over, ⟨SlAt.nil, SlAt.nil⟩: its rows
   (first | refine wX ?_ | exact wZ)
   try refine Nd.mk ⟨Nat.le_refl 1, rfl, rfl⟩ ?_
   (conv => whnf)
   refine AppN.grow 1 (grC m) (cellC (⟨⟨7, 0, [], [], []⟩, none, 0, none, 0⟩ : CellP)) rfl rfl ⟨Nat.le_refl 1, ⟨by show (m.length + 1) * 80 ≤ _; omega, by omega⟩, by decide⟩ fun ob2 oc2 hoc2 _ => ?_
   (first | refine wX ?_ | exact wZ)
   have hm2 : m.length + 1 = (m ++ [(⟨⟨7, 0, [], [], []⟩, none, 0, none, 0⟩ : CellP)]).length := by simp
   have hg2 := grC_snoc m ⟨⟨7, 0, [], [], []⟩, none, 0, none, 0⟩
   refine ⟨⟨i + 1, some ob2, oc2, m ++ [⟨⟨7, 0, [], [], []⟩, none, 0, none, 0⟩]⟩, ⟨by omega, by rw [← hm2, hml], ?_, (fun h => by cases h), by rw [← hm2]; exact hoc2⟩, by show n - (i + 1) < n - i; omega, ?_, [.fact (fun w => SlAt a (L.length * 1) (iC L) w), .app 57 5 (grC m ++ cellC ⟨⟨7, 0, [], [], []⟩, none, 0, none, 0⟩) (some ⟨ob2, 0, none⟩) (m.length + 1) oc2, .fact (fun w => ∀ q ∈ m ++ [(⟨⟨7, 0, [], [], []⟩, none, 0, none, 0⟩ : CellP)], CellF q w), .dead, .dead], turnS ⟨.inr (.inl rfl), .inr (.inl rfl), .inr (.inr ⟨_, rfl, fun w hw q hq => ?_⟩), by repeat (first | exact trivial | refine ⟨.inl rfl, ?_⟩)⟩, ?_⟩
   ·intro q hq
    rcases List.mem_append.1 hq with hq | hq
    ·exact hmo q hq
    ·rw [List.mem_singleton.1 hq]
     exact grw_plain n _ _ _ (by decide)
   ·(repeat' (first | exact trivial | refine And.intro (by with_reducible rfl) ?_ | (with_reducible exact wkC_refl _) | (with_reducible exact wkCs_refl _) | refine And.intro ?_ ?_))
    all_goals first | rfl | exact av_int (by rw [wrap_i64 (by omega)]; omega) | (rw [hm2]; rfl)
   ·rcases List.mem_append.1 hq with hq | hq
    ·exact hw.2.1 q hq
    ·rw [List.mem_singleton.1 hq]
     exact ⟨SlAt.nil, SlAt.nil⟩
   ·show wkH _ [Ent.fact _, .app 57 5 (grC (m ++ [_])) _ (m ++ [_]).length _, _]
    rw [← hm2, hg2]
    exact ⟨wkE_refl _, wkE_refl _, wkE_refl _, trivial⟩
  ·(first | refine wX ?_ | exact wZ)
   have hq2 : IntKind.u64.wrap (x.tdiv 2) = x / 2 := by rw [Int.tdiv_eq_ediv_of_nonneg (by omega)]; exact wrap_u64 (by omega)
   have hc3 : IntKind.i64.wrap ((IntKind.u64.wrap (x.tdiv 2)).tmod 3) = x / 2 % 3 := by rw [hq2, Int.tmod_eq_emod_of_nonneg (by omega)]; exact wrap_i64 (by omega)
   rw [show x.tmod 2 = x % 2 by rw [Int.tmod_eq_emod_of_nonneg (by omega)]]
   have hj : x % 2 = 0 ∨ x % 2 = 1 := by omega
   rcases hj with e | e <;> rw [e]
   ·(first | refine wX ?_ | exact wZ)
    refine LoopN.intro (Nat × List (List UInt8) × BSt × List Int × BSt) (fun ⟨k, nms, o2, its, o⟩ => k ≤ 2 ∧ nms.length = k ∧ its.length = k ∧ (∀ y ∈ its, 0 ≤ y) ∧ (∀ s ∈ nms, s.length ≤ 2) ∧ o2.ok nms.length ∧ o.ok its.length)
     (fun ⟨k, nms, o2, its, o⟩ => mkS Tryz.f12.ntmps 0 [(0, .c (.v (.slice a L.length ca))), (3, .c (.v (.int .i64 (n : Int)))), (4, .c (.v (.slice (at0 ob) m.length oc))), (5, .c (.v (.int .i64 (i : Int)))), (6, .c (.v (.int .u64 x))), (7, .c (.lp 3 0)), (9, .c (.v (.int .i64 (k : Int))))])
     (fun ⟨k, nms, o2, its, o⟩ => [.fact (fun w => SlAt a (L.length * 1) (iC L) w), .app 57 5 (grC m) (at0 ob) m.length oc, .fact (fun w => ∀ p ∈ m, CellF p w), .blk 57 (vs (cellC ⟨⟨8, 0, [67], nms, its⟩, at0 o2.ob, o2.cap, at0 o.ob, o.cap⟩)), .dead, .app 9 1 (strC nms) (at0 o2.ob) nms.length o2.cap, .app 3 1 (iC its) (at0 o.ob) its.length o.cap]) (fun ⟨k, _, _, _, _⟩ => 3 - k) [.app 9 1 [] none 0 0, .app 3 1 [] none 0 0] rfl (fun ⟨_, _, _, _, _⟩ => rfl) (fun ⟨_, _, _, _, _⟩ => rfl) (fun ⟨_, _, _, _, _⟩ _ => okHB_eq rfl) ?_ ?_
    ·refine ⟨(0, [], ⟨none, 0⟩, [], ⟨none, 0⟩), ⟨Nat.zero_le _, rfl, rfl, (fun y h => by cases h), (fun y h => by cases h), ⟨fun _ => ⟨rfl, rfl⟩, Nat.le_refl _, fun _ => rfl⟩, fun _ => ⟨rfl, rfl⟩, Nat.le_refl _, fun _ => rfl⟩, ?_, wkE_refl _, wkE_refl _, wkE_refl _, wkE_refl _, trivial, wkE_refl _, wkE_refl _, trivial⟩
     exact wKK
    rintro ⟨k, nms, ⟨nb0, ncap⟩, its, ⟨ob0, ocap⟩⟩ ⟨hk, hnl, hil, hip, hnw, ho2, ho⟩
    (first | refine wX ?_ | exact wZ)
    refine brd_dec (fun h2 => ?_) (fun h2 => ?_)
    ·rw [hc3] at h2
     have hk01 : k = 0 ∨ k = 1 := by omega
     rcases hk01 with rfl | rfl
     ·-- a name and an item are put behind; [64, 97]: the name, 0: the round
      ((conv => whnf); (repeat ((first | refine VrN.keep ?_ | refine BoxN.own ?_ | refine RwN.own ?_); (conv => whnf))))
      refine DrawN.plan [0, 3] [(1, 1), (2, 0), (4, 1), (5, 1), (6, 0)] [(7, 0), (8, 0), (9, 0)] (by decide +kernel) ?_
      (first | refine wX ?_ | exact wZ)
      refine AppN.grow 5 (strC nms) [.string (bs [64, 97])] rfl rfl ⟨Nat.le_refl 1, ⟨by show (nms.length + 1) * 16 ≤ _; omega, by show nms.length + 1 < _; omega⟩, Nat.one_ne_zero⟩ fun xb xc hxc _ => ?_
      have hcn : strC nms ++ [.string (bs [64, 97])] = strC (nms ++ [[64, 97]]) := by simp [strC]
      have hln : nms.length + 1 = (nms ++ [([64, 97] : List UInt8)]).length := by simp
      rw [hcn, hln]
      rw [hln] at hxc
      (first | refine wX ?_ | exact wZ)
      refine DrawN.plan [0, 2, 4, 9] [(1, 1), (3, 1), (5, 1), (6, 1), (7, 1), (8, 1), (10, 1), (11, 0)] [(12, 0), (13, 0), (14, 0)] (by decide +kernel) ?_
      (first | refine wX ?_ | exact wZ)
      have hit := grw_item x 0 6 5 n hxb (by omega) (by decide) (by decide)
      simp only [Int.cast_ofNat_Int] at hit
      generalize hgi : (IntKind.i64.wrap (IntKind.u64.wrap (IntKind.u64.wrap (x.tdiv 6) + IntKind.u64.wrap (IntKind.u64.wrap (((0 : Nat) : Int)) * 5)))).tmod (n : Int) = it at *
      refine Nd.mk ⟨Nat.le_refl 1, rfl, rfl⟩ ?_
      (conv => whnf)
      refine AppN.grow 6 (iC its) [.int .i64 it] rfl rfl ⟨Nat.le_refl 1, ⟨by show (its.length + 1) * 8 ≤ _; omega, by show its.length + 1 < _; omega⟩, Nat.one_ne_zero⟩ fun wb wc hwc _ => ?_
      have hcl : iC its ++ [.int .i64 it] = iC (its ++ [it]) := by simp [iC]
      have hll : its.length + 1 = (its ++ [it]).length := by simp
      rw [hcl, hll]
      rw [hll] at hwc
      (first | refine wX ?_ | exact wZ)
      refine ⟨(0 + 1, nms ++ [([64, 97] : List UInt8)], ⟨some xb, xc⟩, its ++ [it], ⟨some wb, wc⟩), ⟨by omega, by rw [← hln, hnl], by rw [← hll, hil], ?_, ?_, ⟨(fun h => by cases h), hxc, fun h => by have : xc = 0 := h; omega⟩, (fun h => by cases h), hwc, fun h => by have : wc = 0 := h; omega⟩, by show 3 - (0 + 1) < 3 - 0; omega, ?_, wkE_refl _, wkE_refl _, wkE_refl _, wkE_refl _, trivial, wkE_refl _, wkE_refl _, trivial⟩
      ·intro y hy
       rcases List.mem_append.1 hy with hy | hy
       ·exact hip y hy
       ·rw [List.mem_singleton.1 hy]; exact hit
      ·intro y hy
       rcases List.mem_append.1 hy with hy | hy
       ·exact hnw y hy
       ·rw [List.mem_singleton.1 hy]; decide
      exact wKK
     ·-- a name and an item are put behind; [64, 98]: the name, 1: the round
      ((conv => whnf); (repeat ((first | refine VrN.keep ?_ | refine BoxN.own ?_ | refine RwN.own ?_); (conv => whnf))))
      refine DrawN.plan [0, 3] [(1, 1), (2, 0), (4, 1), (5, 1), (6, 0)] [(7, 0), (8, 0), (9, 0)] (by decide +kernel) ?_
      (first | refine wX ?_ | exact wZ)
      refine AppN.grow 5 (strC nms) [.string (bs [64, 98])] rfl rfl ⟨Nat.le_refl 1, ⟨by show (nms.length + 1) * 16 ≤ _; omega, by show nms.length + 1 < _; omega⟩, Nat.one_ne_zero⟩ fun xb xc hxc _ => ?_
      have hcn : strC nms ++ [.string (bs [64, 98])] = strC (nms ++ [[64, 98]]) := by simp [strC]
      have hln : nms.length + 1 = (nms ++ [([64, 98] : List UInt8)]).length := by simp
      rw [hcn, hln]
      rw [hln] at hxc
      (first | refine wX ?_ | exact wZ)
      refine DrawN.plan [0, 2, 4, 9] [(1, 1), (3, 1), (5, 1), (6, 1), (7, 1), (8, 1), (10, 1), (11, 0)] [(12, 0), (13, 0), (14, 0)] (by decide +kernel) ?_
      (first | refine wX ?_ | exact wZ)
      have hit := grw_item x 1 6 5 n hxb (by omega) (by decide) (by decide)
      simp only [Int.cast_ofNat_Int] at hit
      generalize hgi : (IntKind.i64.wrap (IntKind.u64.wrap (IntKind.u64.wrap (x.tdiv 6) + IntKind.u64.wrap (IntKind.u64.wrap (((1 : Nat) : Int)) * 5)))).tmod (n : Int) = it at *
      refine Nd.mk ⟨Nat.le_refl 1, rfl, rfl⟩ ?_
      (conv => whnf)
      refine AppN.grow 6 (iC its) [.int .i64 it] rfl rfl ⟨Nat.le_refl 1, ⟨by show (its.length + 1) * 8 ≤ _; omega, by show its.length + 1 < _; omega⟩, Nat.one_ne_zero⟩ fun wb wc hwc _ => ?_
      have hcl : iC its ++ [.int .i64 it] = iC (its ++ [it]) := by simp [iC]
      have hll : its.length + 1 = (its ++ [it]).length := by simp
      rw [hcl, hll]
      rw [hll] at hwc
      (first | refine wX ?_ | exact wZ)
      refine ⟨(1 + 1, nms ++ [([64, 98] : List UInt8)], ⟨some xb, xc⟩, its ++ [it], ⟨some wb, wc⟩), ⟨by omega, by rw [← hln, hnl], by rw [← hll, hil], ?_, ?_, ⟨(fun h => by cases h), hxc, fun h => by have : xc = 0 := h; omega⟩, (fun h => by cases h), hwc, fun h => by have : wc = 0 := h; omega⟩, by show 3 - (1 + 1) < 3 - 1; omega, ?_, wkE_refl _, wkE_refl _, wkE_refl _, wkE_refl _, trivial, wkE_refl _, wkE_refl _, trivial⟩
      ·intro y hy
       rcases List.mem_append.1 hy with hy | hy
       ·exact hip y hy
       ·rw [List.mem_singleton.1 hy]; exact hit
      ·intro y hy
       rcases List.mem_append.1 hy with hy | hy
       ·exact hnw y hy
       ·rw [List.mem_singleton.1 hy]; decide
      exact wKK
    ·clear hc3
     have hna : at0 ob0 = none → its = [] := fun h => by
      cases ob0 with
      | none => exact List.eq_nil_of_length_eq_zero (ho.1 rfl).1
      | some b => cases h
     have hnn : at0 nb0 = none → nms = [] := fun h => by
      cases nb0 with
      | none => exact List.eq_nil_of_length_eq_zero (ho2.1 rfl).1
      | some b => cases h
     have hoc2' : its.length ≤ ocap := ho.2.1
     have hnc2' : nms.length ≤ ncap := ho2.2.1
     (first | refine wX ?_ | exact wZ)
     try refine Nd.mk ⟨Nat.le_refl 1, rfl, rfl⟩ ?_
     (conv => whnf)
     refine AppN.grow 1 (grC m) (cellC (⟨⟨8, 0, [67], nms, its⟩, at0 nb0, ncap, at0 ob0, ocap⟩ : CellP)) rfl rfl ⟨Nat.le_refl 1, ⟨by show (m.length + 1) * 80 ≤ _; omega, by omega⟩, by decide⟩ fun ob2 oc2 hoc2 _ => ?_
     (first | refine wX ?_ | exact wZ)
     have hm2 : m.length + 1 = (m ++ [(⟨⟨8, 0, [67], nms, its⟩, at0 nb0, ncap, at0 ob0, ocap⟩ : CellP)]).length := by simp
     have hg2 := grC_snoc m ⟨⟨8, 0, [67], nms, its⟩, at0 nb0, ncap, at0 ob0, ocap⟩
     refine ⟨⟨i + 1, some ob2, oc2, m ++ [⟨⟨8, 0, [67], nms, its⟩, at0 nb0, ncap, at0 ob0, ocap⟩]⟩, ⟨by omega, by rw [← hm2, hml], ?_, (fun h => by cases h), by rw [← hm2]; exact hoc2⟩, by show n - (i + 1) < n - i; omega, ?_, [.fact (fun w => SlAt a (L.length * 1) (iC L) w), .app 57 5 (grC m ++ cellC ⟨⟨8, 0, [67], nms, its⟩, at0 nb0, ncap, at0 ob0, ocap⟩) (some ⟨ob2, 0, none⟩) (m.length + 1) oc2, .fact (fun w => ∀ q ∈ m ++ [(⟨⟨8, 0, [67], nms, its⟩, at0 nb0, ncap, at0 ob0, ocap⟩ : CellP)], CellF q w), .dead, .dead, .dead, .dead, .dead], turnS ⟨.inr (.inl rfl), .inr (.inl rfl), .inr (.inr ⟨_, rfl, fun w hw q hq => ?_⟩), by repeat (first | exact trivial | refine ⟨.inl rfl, ?_⟩)⟩, ?_⟩
     ·intro q hq
      rcases List.mem_append.1 hq with hq | hq
      ·exact hmo q hq
      ·rw [List.mem_singleton.1 hq]
       exact ⟨⟨hnn, hna, by show nms.length ≤ _; omega, by show its.length ≤ _; omega, (fun s h => Nat.le_trans (hnw s h) (by decide)), Nat.le_of_ble_eq_true rfl, hnc2', hoc2'⟩, hip, by show its.length ≤ 4; omega, by show nms.length ≤ 2; omega, Nat.le_of_ble_eq_true rfl⟩
     ·(repeat' (first | exact trivial | refine And.intro (by with_reducible rfl) ?_ | (with_reducible exact wkC_refl _) | (with_reducible exact wkCs_refl _) | refine And.intro ?_ ?_))
      all_goals first | rfl | exact av_int (by rw [wrap_i64 (by omega)]; omega) | (rw [hm2]; rfl)
     ·rcases List.mem_append.1 hq with hq | hq
      ·exact hw.2.1 q hq
      ·rw [List.mem_singleton.1 hq]
       exact ⟨hw.2.2.1, hw.2.2.2.1⟩
     ·show wkH _ [Ent.fact _, .app 57 5 (grC (m ++ [_])) _ (m ++ [_]).length _, _]
      rw [← hm2, hg2]
      exact ⟨wkE_refl _, wkE_refl _, wkE_refl _, trivial⟩
   ·(first | refine wX ?_ | exact wZ)
    refine LoopN.intro (Nat × List (List UInt8) × BSt × List Int × BSt) (fun ⟨k, nms, o2, its, o⟩ => k ≤ 2 ∧ nms.length = k ∧ its.length = k ∧ (∀ y ∈ its, 0 ≤ y) ∧ (∀ s ∈ nms, s.length ≤ 2) ∧ o2.ok nms.length ∧ o.ok its.length)
     (fun ⟨k, nms, o2, its, o⟩ => mkS Tryz.f12.ntmps 0 [(0, .c (.v (.slice a L.length ca))), (3, .c (.v (.int .i64 (n : Int)))), (4, .c (.v (.slice (at0 ob) m.length oc))), (5, .c (.v (.int .i64 (i : Int)))), (6, .c (.v (.int .u64 x))), (7, .c (.lp 3 0)), (9, .c (.v (.int .i64 (k : Int))))])
     (fun ⟨k, nms, o2, its, o⟩ => [.fact (fun w => SlAt a (L.length * 1) (iC L) w), .app 57 5 (grC m) (at0 ob) m.length oc, .fact (fun w => ∀ p ∈ m, CellF p w), .blk 57 (vs (cellC ⟨⟨8, 0, [68], nms, its⟩, at0 o2.ob, o2.cap, at0 o.ob, o.cap⟩)), .dead, .app 9 1 (strC nms) (at0 o2.ob) nms.length o2.cap, .app 3 1 (iC its) (at0 o.ob) its.length o.cap]) (fun ⟨k, _, _, _, _⟩ => 3 - k) [.app 9 1 [] none 0 0, .app 3 1 [] none 0 0] rfl (fun ⟨_, _, _, _, _⟩ => rfl) (fun ⟨_, _, _, _, _⟩ => rfl) (fun ⟨_, _, _, _, _⟩ _ => okHB_eq rfl) ?_ ?_
    ·refine ⟨(0, [], ⟨none, 0⟩, [], ⟨none, 0⟩), ⟨Nat.zero_le _, rfl, rfl, (fun y h => by cases h), (fun y h => by cases h), ⟨fun _ => ⟨rfl, rfl⟩, Nat.le_refl _, fun _ => rfl⟩, fun _ => ⟨rfl, rfl⟩, Nat.le_refl _, fun _ => rfl⟩, ?_, wkE_refl _, wkE_refl _, wkE_refl _, wkE_refl _, trivial, wkE_refl _, wkE_refl _, trivial⟩
     exact wKK
    rintro ⟨k, nms, ⟨nb0, ncap⟩, its, ⟨ob0, ocap⟩⟩ ⟨hk, hnl, hil, hip, hnw, ho2, ho⟩
    (first | refine wX ?_ | exact wZ)
    refine brd_dec (fun h2 => ?_) (fun h2 => ?_)
    ·rw [hc3] at h2
     have hk01 : k = 0 ∨ k = 1 := by omega
     rcases hk01 with rfl | rfl
     ·-- a name and an item are put behind; [64, 97]: the name, 0: the round
      ((conv => whnf); (repeat ((first | refine VrN.keep ?_ | refine BoxN.own ?_ | refine RwN.own ?_); (conv => whnf))))
      refine DrawN.plan [0, 3] [(1, 1), (2, 0), (4, 1), (5, 1), (6, 0)] [(7, 0), (8, 0), (9, 0)] (by decide +kernel) ?_
      (first | refine wX ?_ | exact wZ)
      refine AppN.grow 5 (strC nms) [.string (bs [64, 97])] rfl rfl ⟨Nat.le_refl 1, ⟨by show (nms.length + 1) * 16 ≤ _; omega, by show nms.length + 1 < _; omega⟩, Nat.one_ne_zero⟩ fun xb xc hxc _ => ?_
      have hcn : strC nms ++ [.string (bs [64, 97])] = strC (nms ++ [[64, 97]]) := by simp [strC]
      have hln : nms.length + 1 = (nms ++ [([64, 97] : List UInt8)]).length := by simp
      rw [hcn, hln]
      rw [hln] at hxc
      (first | refine wX ?_ | exact wZ)
      refine DrawN.plan [0, 2, 4, 9] [(1, 1), (3, 1), (5, 1), (6, 1), (7, 1), (8, 1), (10, 1), (11, 0)] [(12, 0), (13, 0), (14, 0)] (by decide +kernel) ?_
      (first | refine wX ?_ | exact wZ)
      have hit := grw_item x 0 6 5 n hxb (by omega) (by decide) (by decide)
      simp only [Int.cast_ofNat_Int] at hit
      generalize hgi : (IntKind.i64.wrap (IntKind.u64.wrap (IntKind.u64.wrap (x.tdiv 6) + IntKind.u64.wrap (IntKind.u64.wrap (((0 : Nat) : Int)) * 5)))).tmod (n : Int) = it at *
      refine Nd.mk ⟨Nat.le_refl 1, rfl, rfl⟩ ?_
      (conv => whnf)
      refine AppN.grow 6 (iC its) [.int .i64 it] rfl rfl ⟨Nat.le_refl 1, ⟨by show (its.length + 1) * 8 ≤ _; omega, by show its.length + 1 < _; omega⟩, Nat.one_ne_zero⟩ fun wb wc hwc _ => ?_
      have hcl : iC its ++ [.int .i64 it] = iC (its ++ [it]) := by simp [iC]
      have hll : its.length + 1 = (its ++ [it]).length := by simp
      rw [hcl, hll]
      rw [hll] at hwc
      (first | refine wX ?_ | exact wZ)
      refine ⟨(0 + 1, nms ++ [([64, 97] : List UInt8)], ⟨some xb, xc⟩, its ++ [it], ⟨some wb, wc⟩), ⟨by omega, by rw [← hln, hnl], by rw [← hll, hil], ?_, ?_, ⟨(fun h => by cases h), hxc, fun h => by have : xc = 0 := h; omega⟩, (fun h => by cases h), hwc, fun h => by have : wc = 0 := h; omega⟩, by show 3 - (0 + 1) < 3 - 0; omega, ?_, wkE_refl _, wkE_refl _, wkE_refl _, wkE_refl _, trivial, wkE_refl _, wkE_refl _, trivial⟩
      ·intro y hy
       rcases List.mem_append.1 hy with hy | hy
       ·exact hip y hy
       ·rw [List.mem_singleton.1 hy]; exact hit
      ·intro y hy
       rcases List.mem_append.1 hy with hy | hy
       ·exact hnw y hy
       ·rw [List.mem_singleton.1 hy]; decide
      exact wKK
     ·-- a name and an item are put behind; [64, 98]: the name, 1: the round
      ((conv => whnf); (repeat ((first | refine VrN.keep ?_ | refine BoxN.own ?_ | refine RwN.own ?_); (conv => whnf))))
      refine DrawN.plan [0, 3] [(1, 1), (2, 0), (4, 1), (5, 1), (6, 0)] [(7, 0), (8, 0), (9, 0)] (by decide +kernel) ?_
      (first | refine wX ?_ | exact wZ)
      refine AppN.grow 5 (strC nms) [.string (bs [64, 98])] rfl rfl ⟨Nat.le_refl 1, ⟨by show (nms.length + 1) * 16 ≤ _; omega, by show nms.length + 1 < _; omega⟩, Nat.one_ne_zero⟩ fun xb xc hxc _ => ?_
      have hcn : strC nms ++ [.string (bs [64, 98])] = strC (nms ++ [[64, 98]]) := by simp [strC]
      have hln : nms.length + 1 = (nms ++ [([64, 98] : List UInt8)]).length := by simp
      rw [hcn, hln]
      rw [hln] at hxc
      (first | refine wX ?_ | exact wZ)
      refine DrawN.plan [0, 2, 4, 9] [(1, 1), (3, 1), (5, 1), (6, 1), (7, 1), (8, 1), (10, 1), (11, 0)] [(12, 0), (13, 0), (14, 0)] (by decide +kernel) ?_
      (first | refine wX ?_ | exact wZ)
      have hit := grw_item x 1 6 5 n hxb (by omega) (by decide) (by decide)
      simp only [Int.cast_ofNat_Int] at hit
      generalize hgi : (IntKind.i64.wrap (IntKind.u64.wrap (IntKind.u64.wrap (x.tdiv 6) + IntKind.u64.wrap (IntKind.u64.wrap (((1 : Nat) : Int)) * 5)))).tmod (n : Int) = it at *
      refine Nd.mk ⟨Nat.le_refl 1, rfl, rfl⟩ ?_
      (conv => whnf)
      refine AppN.grow 6 (iC its) [.int .i64 it] rfl rfl ⟨Nat.le_refl 1, ⟨by show (its.length + 1) * 8 ≤ _; omega, by show its.length + 1 < _; omega⟩, Nat.one_ne_zero⟩ fun wb wc hwc _ => ?_
      have hcl : iC its ++ [.int .i64 it] = iC (its ++ [it]) := by simp [iC]
      have hll : its.length + 1 = (its ++ [it]).length := by simp
      rw [hcl, hll]
      rw [hll] at hwc
      (first | refine wX ?_ | exact wZ)
      refine ⟨(1 + 1, nms ++ [([64, 98] : List UInt8)], ⟨some xb, xc⟩, its ++ [it], ⟨some wb, wc⟩), ⟨by omega, by rw [← hln, hnl], by rw [← hll, hil], ?_, ?_, ⟨(fun h => by cases h), hxc, fun h => by have : xc = 0 := h; omega⟩, (fun h => by cases h), hwc, fun h => by have : wc = 0 := h; omega⟩, by show 3 - (1 + 1) < 3 - 1; omega, ?_, wkE_refl _, wkE_refl _, wkE_refl _, wkE_refl _, trivial, wkE_refl _, wkE_refl _, trivial⟩
      ·intro y hy
       rcases List.mem_append.1 hy with hy | hy
       ·exact hip y hy
       ·rw [List.mem_singleton.1 hy]; exact hit
      ·intro y hy
       rcases List.mem_append.1 hy with hy | hy
       ·exact hnw y hy
       ·rw [List.mem_singleton.1 hy]; decide
      exact wKK
    ·clear hc3
     have hna : at0 ob0 = none → its = [] := fun h => by
      cases ob0 with
      | none => exact List.eq_nil_of_length_eq_zero (ho.1 rfl).1
      | some b => cases h
     have hnn : at0 nb0 = none → nms = [] := fun h => by
      cases nb0 with
      | none => exact List.eq_nil_of_length_eq_zero (ho2.1 rfl).1
      | some b => cases h
     have hoc2' : its.length ≤ ocap := ho.2.1
     have hnc2' : nms.length ≤ ncap := ho2.2.1
     (first | refine wX ?_ | exact wZ)
     try refine Nd.mk ⟨Nat.le_refl 1, rfl, rfl⟩ ?_
     (conv => whnf)
     refine AppN.grow 1 (grC m) (cellC (⟨⟨8, 0, [68], nms, its⟩, at0 nb0, ncap, at0 ob0, ocap⟩ : CellP)) rfl rfl ⟨Nat.le_refl 1, ⟨by show (m.length + 1) * 80 ≤ _; omega, by omega⟩, by decide⟩ fun ob2 oc2 hoc2 _ => ?_
     (first | refine wX ?_ | exact wZ)
     have hm2 : m.length + 1 = (m ++ [(⟨⟨8, 0, [68], nms, its⟩, at0 nb0, ncap, at0 ob0, ocap⟩ : CellP)]).length := by simp
     have hg2 := grC_snoc m ⟨⟨8, 0, [68], nms, its⟩, at0 nb0, ncap, at0 ob0, ocap⟩
     refine ⟨⟨i + 1, some ob2, oc2, m ++ [⟨⟨8, 0, [68], nms, its⟩, at0 nb0, ncap, at0 ob0, ocap⟩]⟩, ⟨by omega, by rw [← hm2, hml], ?_, (fun h => by cases h), by rw [← hm2]; exact hoc2⟩, by show n - (i + 1) < n - i; omega, ?_, [.fact (fun w => SlAt a (L.length * 1) (iC L) w), .app 57 5 (grC m ++ cellC ⟨⟨8, 0, [68], nms, its⟩, at0 nb0, ncap, at0 ob0, ocap⟩) (some ⟨ob2, 0, none⟩) (m.length + 1) oc2, .fact (fun w => ∀ q ∈ m ++ [(⟨⟨8, 0, [68], nms, its⟩, at0 nb0, ncap, at0 ob0, ocap⟩ : CellP)], CellF q w), .dead, .dead, .dead, .dead, .dead], turnS ⟨.inr (.inl rfl), .inr (.inl rfl), .inr (.inr ⟨_, rfl, fun w hw q hq => ?_⟩), by repeat (first | exact trivial | refine ⟨.inl rfl, ?_⟩)⟩, ?_⟩
     ·intro q hq
      rcases List.mem_append.1 hq with hq | hq
      ·exact hmo q hq
      ·rw [List.mem_singleton.1 hq]
       exact ⟨⟨hnn, hna, by show nms.length ≤ _; omega, by show its.length ≤ _; omega, (fun s h => Nat.le_trans (hnw s h) (by decide)), Nat.le_of_ble_eq_true rfl, hnc2', hoc2'⟩, hip, by show its.length ≤ 4; omega, by show nms.length ≤ 2; omega, Nat.le_of_ble_eq_true rfl⟩
     ·(repeat' (first | exact trivial | refine And.intro (by with_reducible rfl) ?_ | (with_reducible exact wkC_refl _) | (with_reducible exact wkCs_refl _) | refine And.intro ?_ ?_))
      all_goals first | rfl | exact av_int (by rw [wrap_i64 (by omega)]; omega) | (rw [hm2]; rfl)
     ·rcases List.mem_append.1 hq with hq | hq
      ·exact hw.2.1 q hq
      ·rw [List.mem_singleton.1 hq]
       exact ⟨hw.2.2.1, hw.2.2.2.1⟩
     ·show wkH _ [Ent.fact _, .app 57 5 (grC (m ++ [_])) _ (m ++ [_]).length _, _]
      rw [← hm2, hg2]
      exact ⟨wkE_refl _, wkE_refl _, wkE_refl _, trivial⟩
 ·have hin : i = n := by omega
  subst hin
  (first | refine wX ?_ | exact wZ)
  refine LoopN.introS (Nat × List CellP) (fun ⟨j, m⟩ => j ≤ i ∧ m.length = i ∧ (∀ p ∈ m, GrwC i p)) (fun ⟨j, m⟩ => mkS Tryz.f12.ntmps 0 [(0, .c (.v (.slice a L.length ca))), (3, .c (.v (.int .i64 (i : Int)))), (4, .c (.v (.slice (at0 ob) i oc))), (10, .c (.v (.int .i64 (j : Int))))]) (fun ⟨j, m⟩ => [.fact (fun w => SlAt a (L.length * 1) (iC L) w), .app 57 5 (grC m) (at0 ob) i oc, .fact (fun w => ∀ p ∈ m, CellF p w)]) (fun ⟨j, _⟩ => i - j) [] rfl (fun _ => rfl) (fun _ => rfl) (fun _ _ => ⟨trivial, trivial, trivial, trivial⟩) ?_ ?_
  ·refine ⟨(0, m), ⟨Nat.zero_le _, hml, hmo⟩, ?_, _, turn_refl _, wkE_refl _, ?_, wkE_refl _, trivial⟩
   ·(repeat' (first | exact trivial | refine And.intro (by with_reducible rfl) ?_ | (with_reducible exact wkC_refl _) | (with_reducible exact wkCs_refl _) | refine And.intro ?_ ?_))
    all_goals first | rfl | rw [hml]
   ·rw [← hml]; exact wkE_refl _
  rintro ⟨j, m2⟩ ⟨hj, hm2l, hm2o⟩
  (first | refine wX ?_ | exact wZ)
  refine brd_dec (fun h2 => ?_) (fun h2 => ?_)
  ·obtain ⟨p, hp⟩ : ∃ p, m2[j]? = some p := ⟨_, List.getElem?_eq_getElem (by omega)⟩
   obtain ⟨gb, rfl⟩ : ∃ gb, ob = some gb := by
    cases ob with
    | none => have := hoa rfl; subst this; simp only [List.length_nil] at hml; omega
    | some gb => exact ⟨gb, rfl⟩
   obtain ⟨z, hz⟩ : ∃ z, L[j]? = some z := ⟨_, List.getElem?_eq_getElem (by omega)⟩
   have hsa : a.isSome = true := by
    cases a with
    | none => rw [ha rfl] at hz; cases hz
    | some b => rfl
   (first | refine wX ?_ | exact wZ)
   refine Nd.mk ⟨rfl, by omega, by omega⟩ ?_
   (first | refine wX ?_ | exact wZ)
   refine LdN.fld (.int .i64 p.c.kind) rfl (fun w hw => hw.2.1) (by rw [Int.toNat_natCast]; exact grC_get m2 j 0 (by decide) hp) ?_
   (first | refine wX ?_ | exact wZ)
   refine brd_eq (fun h7 => ?_) (fun h7 => ?_)
   rotate_left
   ·(first | refine wX ?_ | exact wZ)
    refine ⟨(j + 1, m2), ⟨by omega, hm2l, hm2o⟩, by show i - (j + 1) < i - j; omega, ?_, _, turn_refl _, wkE_refl _, wkE_refl _, wkE_refl _, trivial⟩
    exact wKK
   (first | refine wX ?_ | exact wZ)
   refine Nd.mk ⟨hsa, by omega, by omega⟩ ?_
   (first | refine wX ?_ | exact wZ)
   refine LdN.one (.int .i64 z) rfl (fun w hw => hw.1) (by rw [Int.toNat_natCast]; show (iC L)[j * 1]? = _; rw [Nat.mul_one]; exact iC_get hz) ?_
   (first | refine wXR ?_ | exact wZR)
   have hXb := wrap_u64_bd z
   generalize IntKind.u64.wrap z = X at *
   have hx0 : IntKind.u64.wrap (X.tdiv 9) = X / 9 := by rw [Int.tdiv_eq_ediv_of_nonneg (by omega)]; exact wrap_u64 (by omega)
   rw [hx0]
   obtain ⟨x, hx⟩ : ∃ x, x = X / 9 := ⟨_, rfl⟩
   rw [← hx]
   have hxb : 0 ≤ x ∧ x ≤ 2049638230412172402 := by omega
   clear hx0 hXb
   refine DrawN.plan [0, 1, 2, 4, 6, 9] [(3, 1), (5, 1), (7, 1), (8, 1), (10, 1), (11, 0), (12, 1), (13, 1)] [(14, 0)] (by decide +kernel) ?_
   (first | refine wXR ?_ | exact wZR)
   obtain ⟨v1, hv1⟩ : ∃ v, v = (IntKind.i64.wrap x).tmod (i : Int) := ⟨_, rfl⟩
   obtain ⟨v2, hv2⟩ : ∃ v, v = (IntKind.i64.wrap (IntKind.u64.wrap (x.tdiv 3))).tmod (i : Int) := ⟨_, rfl⟩
   rw [← hv1, ← hv2]
   refine RwN.known [.int .i64 v1, .int .i64 v2] rfl fun ib => ?_
   (first | refine wXR ?_ | exact wZR)
   refine Nd.mk ⟨rfl, by omega, by omega⟩ ?_
   (first | refine wXR ?_ | exact wZR)
   have hgl2 : (grC m2).length = i * 5 := by rw [grC_len, hm2l]
   refine EffW.appTo (i := 1) (q := j * 5 + 4) (ys := [.slice (some ⟨ib, 0, none⟩) 2 2]) (grC (m2.set j (setI p [v1, v2] (some ⟨ib, 0, none⟩) 2))) 5 rfl (by rw [Int.toNat_natCast]; show AV.c (CV.v (Value.pointer (some (((⟨gb, 0, none⟩ : Addr).add (j * 5)).add 4)))) = _; rw [add_lit0, add_lit]) rfl rfl rfl rfl rfl (by show _ + 1 ≤ _ * 5; omega) (by rw [put_set _ (by omega)]; exact grC_set [v1, v2] _ 2 hp) rfl ?_
   have hpm := List.mem_of_getElem? hp
   have hq1 : 0 ≤ v1 := by rw [hv1, wrap_i64 (by omega)]; exact Int.tmod_nonneg _ (by omega)
   have hq2 : 0 ≤ v2 := by
    have : 0 ≤ x.tdiv 3 ∧ x.tdiv 3 ≤ x := by rw [Int.tdiv_eq_ediv_of_nonneg hxb.1]; omega
    rw [hv2, wrap_u64 (by omega), wrap_i64 (by omega)]
    exact Int.tmod_nonneg _ (by omega)
   clear hv1 hv2
   have hi12 : i ≤ 12 := by omega
   (first | refine wX ?_ | exact wZ)
   refine brd_dec (fun h3 => ?_) (fun h3 => ?_)
   rotate_left
   ·-- is it valid still? [v1, v2]: the items, ib: their block, 2: its capacity, , .dead, .dead, .dead: what is over, (by simp [hq1, hq2]): no item is below 0
    (first | refine wX ?_ | exact wZ)
    have hG : ∀ q ∈ m2.set j (setI p [v1, v2] (some ⟨ib, 0, none⟩) 2), GrwC i q := grw_set hm2o hpm ib 2 (by simp [hq1, hq2]) (Nat.le_of_ble_eq_true rfl) (Nat.le_refl 2)
    have hlen : (m2.set j (setI p [v1, v2] (some ⟨ib, 0, none⟩) 2)).length = i := by rw [List.length_set, hm2l]
    have has := as_o (at0 (some gb)) oc (m2.set j (setI p [v1, v2] (some ⟨ib, 0, none⟩) 2)) (fun h => by cases h) (grw_small hG (by omega)) (fun q hq => (hG q hq).ok)
    rw [hlen] at has
    refine factG (fun _ => rfl) has ?_ fun st hst => ?_
    ·exact fun w hw => ⟨by rw [hlen]; exact hw.2.1, set_rows hpm hw.2.2.1 hw.2.2.2.1⟩
    obtain ⟨t, ht1, ht2⟩ := Valid_b st.oa st.oc st.m hst.oa (by have := congrArg List.length hst.c; simp only [List.length_map] at this; omega) hst.ok
    (first | refine wX ?_ | exact wZ)
    refine call1 (ht2 _ (fun w hw => hst.gr hw.2.2.2.2.1 hw.2.2.2.2.2.1)) ?_
    cases t with
    | true =>
     (first | refine wX ?_ | exact wZ)
     refine ⟨(j + 1, m2.set j (setI p [v1, v2] (some ⟨ib, 0, none⟩) 2)), ⟨by omega, hlen, hG⟩, by show i - (j + 1) < i - j; omega, ?_, [.fact (fun w => SlAt a (L.length * 1) (iC L) w), .app 57 5 (grC (m2.set j (setI p [v1, v2] (some ⟨ib, 0, none⟩) 2))) (some ⟨gb, 0, none⟩) i oc, .fact (fun w => ∀ q ∈ m2.set j (setI p [v1, v2] (some ⟨ib, 0, none⟩) 2), CellF q w), .dead, .dead, .dead], turnS ⟨.inr (.inl rfl), .inr (.inl rfl), .inr (.inr ⟨_, rfl, fun w hw => set_rows hpm hw.2.1 hw.2.2.1⟩), by repeat (first | exact trivial | refine ⟨.inl rfl, ?_⟩)⟩, wkE_refl _, wkE_refl _, wkE_refl _, trivial⟩
     exact wKK
    | false =>
     have hp2 : (m2.set j (setI p [v1, v2] (some ⟨ib, 0, none⟩) 2))[j]? = some (setI p [v1, v2] (some ⟨ib, 0, none⟩) 2) := by rw [List.getElem?_set_self (by omega)]
     have hG2 : ∀ q ∈ m2.set j (setI p [v1, v2] (some ⟨ib, 0, none⟩) 2), GrwC i q := grw_set hm2o hpm ib 2 (by simp [hq1, hq2]) (Nat.le_of_ble_eq_true rfl) (by show 2 ≤ _; first | exact Nat.le_refl 2 | omega)
     have hlen2 : (m2.set j (setI p [v1, v2] (some ⟨ib, 0, none⟩) 2)).length = i := by rw [List.length_set, hm2l]
     have hgl3 : (grC (m2.set j (setI p [v1, v2] (some ⟨ib, 0, none⟩) 2))).length = i * 5 := by rw [grC_len, hlen]
     (first | refine wX ?_ | exact wZ)
     refine Nd.mk ⟨rfl, by omega, by omega⟩ ?_
     (first | refine wX ?_ | exact wZ)
     refine LdN.fld (.slice (some ⟨ib, 0, none⟩) (List.length [v1, v2]) 2) rfl (fun w hw => hw.2.1) (by rw [Int.toNat_natCast]; exact grC_get _ j 4 (by decide) hp2) ?_
     (first | refine wX ?_ | exact wZ)
     refine ReadW.slc_h (ob := some ib) rfl (by kernel_rfl) rfl rfl ⟨by decide, by first | decide | omega⟩ ?_
     (first | refine wX ?_ | exact wZ)
     refine Nd.mk ⟨rfl, by omega, by omega⟩ ?_
     (first | refine wX ?_ | exact wZ)
     refine EffW.appTo (i := 1) (q := j * 5 + 4) (ys := [.slice (some ⟨ib, 0, none⟩) 2 2]) (grC (m2.set j (setI p [v1, v2] (some ⟨ib, 0, none⟩) 2))) 5 rfl (by rw [Int.toNat_natCast]; show AV.c (CV.v (Value.pointer (some (((⟨gb, 0, none⟩ : Addr).add (j * 5)).add 4)))) = _; rw [add_lit0, add_lit]) rfl rfl rfl rfl rfl (by show _ + 1 ≤ _ * 5; omega) (by rw [put_set _ (by omega)]; have := grC_set [v1, v2] (some ⟨ib, 0, none⟩) 2 hp2; rw [List.set_set] at this; exact this) rfl ?_
     (first | refine wX ?_ | exact wZ)
     refine ⟨(j + 1, m2.set j (setI p [v1, v2] (some ⟨ib, 0, none⟩) 2)), ⟨by omega, hlen2, hG2⟩, by show i - (j + 1) < i - j; omega, ?_, [.fact (fun w => SlAt a (L.length * 1) (iC L) w), .app 57 5 (grC (m2.set j (setI p [v1, v2] (some ⟨ib, 0, none⟩) 2))) (some ⟨gb, 0, none⟩) i oc, .fact (fun w => ∀ q ∈ m2.set j (setI p [v1, v2] (some ⟨ib, 0, none⟩) 2), CellF q w), .dead, .dead, .dead], turnS ⟨.inr (.inl rfl), .inr (.inl rfl), .inr (.inr ⟨_, rfl, fun w hw => set_rows hpm hw.2.1 (SlAt.take (j := 2) hw.2.2.1 (Nat.le_of_ble_eq_true rfl))⟩), by repeat (first | exact trivial | refine ⟨.inl rfl, ?_⟩)⟩, wkE_refl _, wkE_refl _, wkE_refl _, trivial⟩
     exact wKK
   (first | refine wX ?_ | exact wZ)
   refine brd_eq (fun h4 => ?_) (fun h4 => ?_)
   rotate_left
   ·-- is it valid still? [v1, v2]: the items, ib: their block, 2: its capacity, , .dead, .dead, .dead: what is over, (by simp [hq1, hq2]): no item is below 0
    (first | refine wX ?_ | exact wZ)
    have hG : ∀ q ∈ m2.set j (setI p [v1, v2] (some ⟨ib, 0, none⟩) 2), GrwC i q := grw_set hm2o hpm ib 2 (by simp [hq1, hq2]) (Nat.le_of_ble_eq_true rfl) (Nat.le_refl 2)
    have hlen : (m2.set j (setI p [v1, v2] (some ⟨ib, 0, none⟩) 2)).length = i := by rw [List.length_set, hm2l]
    have has := as_o (at0 (some gb)) oc (m2.set j (setI p [v1, v2] (some ⟨ib, 0, none⟩) 2)) (fun h => by cases h) (grw_small hG (by omega)) (fun q hq => (hG q hq).ok)
    rw [hlen] at has
    refine factG (fun _ => rfl) has ?_ fun st hst => ?_
    ·exact fun w hw => ⟨by rw [hlen]; exact hw.2.1, set_rows hpm hw.2.2.1 hw.2.2.2.1⟩
    obtain ⟨t, ht1, ht2⟩ := Valid_b st.oa st.oc st.m hst.oa (by have := congrArg List.length hst.c; simp only [List.length_map] at this; omega) hst.ok
    (first | refine wX ?_ | exact wZ)
    refine call1 (ht2 _ (fun w hw => hst.gr hw.2.2.2.2.1 hw.2.2.2.2.2.1)) ?_
    cases t with
    | true =>
     (first | refine wX ?_ | exact wZ)
     refine ⟨(j + 1, m2.set j (setI p [v1, v2] (some ⟨ib, 0, none⟩) 2)), ⟨by omega, hlen, hG⟩, by show i - (j + 1) < i - j; omega, ?_, [.fact (fun w => SlAt a (L.length * 1) (iC L) w), .app 57 5 (grC (m2.set j (setI p [v1, v2] (some ⟨ib, 0, none⟩) 2))) (some ⟨gb, 0, none⟩) i oc, .fact (fun w => ∀ q ∈ m2.set j (setI p [v1, v2] (some ⟨ib, 0, none⟩) 2), CellF q w), .dead, .dead, .dead], turnS ⟨.inr (.inl rfl), .inr (.inl rfl), .inr (.inr ⟨_, rfl, fun w hw => set_rows hpm hw.2.1 hw.2.2.1⟩), by repeat (first | exact trivial | refine ⟨.inl rfl, ?_⟩)⟩, wkE_refl _, wkE_refl _, wkE_refl _, trivial⟩
     exact wKK
    | false =>
     have hp2 : (m2.set j (setI p [v1, v2] (some ⟨ib, 0, none⟩) 2))[j]? = some (setI p [v1, v2] (some ⟨ib, 0, none⟩) 2) := by rw [List.getElem?_set_self (by omega)]
     have hG2 : ∀ q ∈ m2.set j (setI p [v1, v2] (some ⟨ib, 0, none⟩) 2), GrwC i q := grw_set hm2o hpm ib 2 (by simp [hq1, hq2]) (Nat.le_of_ble_eq_true rfl) (by show 2 ≤ _; first | exact Nat.le_refl 2 | omega)
     have hlen2 : (m2.set j (setI p [v1, v2] (some ⟨ib, 0, none⟩) 2)).length = i := by rw [List.length_set, hm2l]
     have hgl3 : (grC (m2.set j (setI p [v1, v2] (some ⟨ib, 0, none⟩) 2))).length = i * 5 := by rw [grC_len, hlen]
     (first | refine wX ?_ | exact wZ)
     refine Nd.mk ⟨rfl, by omega, by omega⟩ ?_
     (first | refine wX ?_ | exact wZ)
     refine LdN.fld (.slice (some ⟨ib, 0, none⟩) (List.length [v1, v2]) 2) rfl (fun w hw => hw.2.1) (by rw [Int.toNat_natCast]; exact grC_get _ j 4 (by decide) hp2) ?_
     (first | refine wX ?_ | exact wZ)
     refine ReadW.slc_h (ob := some ib) rfl (by kernel_rfl) rfl rfl ⟨by decide, by first | decide | omega⟩ ?_
     (first | refine wX ?_ | exact wZ)
     refine Nd.mk ⟨rfl, by omega, by omega⟩ ?_
     (first | refine wX ?_ | exact wZ)
     refine EffW.appTo (i := 1) (q := j * 5 + 4) (ys := [.slice (some ⟨ib, 0, none⟩) 2 2]) (grC (m2.set j (setI p [v1, v2] (some ⟨ib, 0, none⟩) 2))) 5 rfl (by rw [Int.toNat_natCast]; show AV.c (CV.v (Value.pointer (some (((⟨gb, 0, none⟩ : Addr).add (j * 5)).add 4)))) = _; rw [add_lit0, add_lit]) rfl rfl rfl rfl rfl (by show _ + 1 ≤ _ * 5; omega) (by rw [put_set _ (by omega)]; have := grC_set [v1, v2] (some ⟨ib, 0, none⟩) 2 hp2; rw [List.set_set] at this; exact this) rfl ?_
     (first | refine wX ?_ | exact wZ)
     refine ⟨(j + 1, m2.set j (setI p [v1, v2] (some ⟨ib, 0, none⟩) 2)), ⟨by omega, hlen2, hG2⟩, by show i - (j + 1) < i - j; omega, ?_, [.fact (fun w => SlAt a (L.length * 1) (iC L) w), .app 57 5 (grC (m2.set j (setI p [v1, v2] (some ⟨ib, 0, none⟩) 2))) (some ⟨gb, 0, none⟩) i oc, .fact (fun w => ∀ q ∈ m2.set j (setI p [v1, v2] (some ⟨ib, 0, none⟩) 2), CellF q w), .dead, .dead, .dead], turnS ⟨.inr (.inl rfl), .inr (.inl rfl), .inr (.inr ⟨_, rfl, fun w hw => set_rows hpm hw.2.1 (SlAt.take (j := 2) hw.2.2.1 (Nat.le_of_ble_eq_true rfl))⟩), by repeat (first | exact trivial | refine ⟨.inl rfl, ?_⟩)⟩, wkE_refl _, wkE_refl _, wkE_refl _, trivial⟩
     exact wKK
   have hp1 : (m2.set j (setI p [v1, v2] (some ⟨ib, 0, none⟩) 2))[j]? = some (setI p [v1, v2] (some ⟨ib, 0, none⟩) 2) := by rw [List.getElem?_set_self (by omega)]
   have hgl4 : (grC (m2.set j (setI p [v1, v2] (some ⟨ib, 0, none⟩) 2))).length = i * 5 := by rw [grC_len, List.length_set, hm2l]
   (first | refine wX ?_ | exact wZ)
   refine DrawN.plan [0, 1, 2, 3, 7, 10, 12, 15] [(4, 1), (5, 1), (6, 1), (8, 1), (9, 1), (11, 1), (13, 1), (14, 1), (16, 1), (17, 0)] [(18, 0), (19, 0), (20, 0), (21, 0)] (by decide +kernel) ?_
   (first | refine wX ?_ | exact wZ)
   refine Nd.mk ⟨rfl, by omega, by omega⟩ ?_
   (first | refine wX ?_ | exact wZ)
   refine LdN.fld (.slice (some ⟨ib, 0, none⟩) 2 2) rfl (fun w hw => hw.2.1) (by rw [Int.toNat_natCast]; exact grC_get _ j 4 (by decide) hp1) ?_
   (first | refine wX ?_ | exact wZ)
   obtain ⟨w1, hw1⟩ : ∃ v, v = (IntKind.i64.wrap (IntKind.u64.wrap (x.tdiv 5))).tmod (i : Int) := ⟨_, rfl⟩
   obtain ⟨w2, hw2⟩ : ∃ v, v = (IntKind.i64.wrap (IntKind.u64.wrap (x.tdiv 7))).tmod (i : Int) := ⟨_, rfl⟩
   rw [← hw1, ← hw2]
   have hq3 : 0 ≤ w1 := by
    have : 0 ≤ x.tdiv 5 ∧ x.tdiv 5 ≤ x := by rw [Int.tdiv_eq_ediv_of_nonneg hxb.1]; omega
    rw [hw1, wrap_u64 (by omega), wrap_i64 (by omega)]
    exact Int.tmod_nonneg _ (by omega)
   have hq4 : 0 ≤ w2 := by
    have : 0 ≤ x.tdiv 7 ∧ x.tdiv 7 ≤ x := by rw [Int.tdiv_eq_ediv_of_nonneg hxb.1]; omega
    rw [hw2, wrap_u64 (by omega), wrap_i64 (by omega)]
    exact Int.tmod_nonneg _ (by omega)
   clear hw1 hw2
   refine Nd.mk ⟨Nat.le_of_ble_eq_true rfl, rfl, rfl⟩ ?_
   (conv => whnf)
   refine AppN.grow 3 [.int .i64 v1, .int .i64 v2] [.int .i64 w1, .int .i64 w2] rfl rfl ⟨Nat.le_of_ble_eq_true rfl, ⟨by decide, by decide⟩, Nat.one_ne_zero⟩ fun wb wc hwc _ => ?_
   (first | refine wX ?_ | exact wZ)
   refine Nd.mk ⟨rfl, by omega, by omega⟩ ?_
   (first | refine wX ?_ | exact wZ)
   refine EffW.appTo (i := 1) (q := j * 5 + 4) (ys := [.slice (some ⟨wb, 0, none⟩) 4 wc]) (grC (m2.set j (setI p [v1, v2, w1, w2] (some ⟨wb, 0, none⟩) wc))) 5 rfl (by rw [Int.toNat_natCast]; show AV.c (CV.v (Value.pointer (some (((⟨gb, 0, none⟩ : Addr).add (j * 5)).add 4)))) = _; rw [add_lit0, add_lit]) rfl rfl rfl rfl rfl (by show _ + 1 ≤ _ * 5; omega) (by rw [put_set _ (by omega)]; have := grC_set [v1, v2, w1, w2] (some ⟨wb, 0, none⟩) wc hp1; rw [List.set_set] at this; exact this) rfl ?_
   (first | refine wX ?_ | exact wZ)
   have hG : ∀ q ∈ m2.set j (setI p [v1, v2, w1, w2] (some ⟨wb, 0, none⟩) wc), GrwC i q := grw_set hm2o hpm wb wc (by simp [hq1, hq2, hq3, hq4]) (Nat.le_of_ble_eq_true rfl) hwc
   have hlen : (m2.set j (setI p [v1, v2, w1, w2] (some ⟨wb, 0, none⟩) wc)).length = i := by rw [List.length_set, hm2l]
   have has := as_o (at0 (some gb)) oc (m2.set j (setI p [v1, v2, w1, w2] (some ⟨wb, 0, none⟩) wc)) (fun h => by cases h) (grw_small hG (by omega)) (fun q hq => (hG q hq).ok)
   rw [hlen] at has
   refine factG (fun _ => rfl) has ?_ fun st hst => ?_
   ·exact fun w hw => ⟨by rw [hlen]; exact hw.2.1, set_rows hpm hw.2.2.1 hw.2.2.2.1⟩
   obtain ⟨t, ht1, ht2⟩ := Valid_b st.oa st.oc st.m hst.oa (by have := congrArg List.length hst.c; simp only [List.length_map] at this; omega) hst.ok
   (first | refine wX ?_ | exact wZ)
   refine call1 (ht2 _ (fun w hw => hst.gr hw.2.2.2.2.1 hw.2.2.2.2.2.1)) ?_
   cases t with
   | true =>
    (first | refine wX ?_ | exact wZ)
    refine ⟨(j + 1, m2.set j (setI p [v1, v2, w1, w2] (some ⟨wb, 0, none⟩) wc)), ⟨by omega, hlen, hG⟩, by show i - (j + 1) < i - j; omega, ?_, [.fact (fun w => SlAt a (L.length * 1) (iC L) w), .app 57 5 (grC (m2.set j (setI p [v1, v2, w1, w2] (some ⟨wb, 0, none⟩) wc))) (some ⟨gb, 0, none⟩) i oc, .fact (fun w => ∀ q ∈ m2.set j (setI p [v1, v2, w1, w2] (some ⟨wb, 0, none⟩) wc), CellF q w), .dead, .dead, .dead, .dead], turnS ⟨.inr (.inl rfl), .inr (.inl rfl), .inr (.inr ⟨_, rfl, fun w hw => set_rows hpm hw.2.1 hw.2.2.1⟩), by repeat (first | exact trivial | refine ⟨.inl rfl, ?_⟩)⟩, wkE_refl _, wkE_refl _, wkE_refl _, trivial⟩
    exact wKK
   | false =>
    have hp2 : (m2.set j (setI p [v1, v2, w1, w2] (some ⟨wb, 0, none⟩) wc))[j]? = some (setI p [v1, v2, w1, w2] (some ⟨wb, 0, none⟩) wc) := by rw [List.getElem?_set_self (by omega)]
    have hG2 : ∀ q ∈ m2.set j (setI p [v1, v2] (some ⟨wb, 0, none⟩) wc), GrwC i q := grw_set hm2o hpm wb wc (by simp [hq1, hq2]) (Nat.le_of_ble_eq_true rfl) (by show 2 ≤ _; first | exact Nat.le_refl 2 | omega)
    have hlen2 : (m2.set j (setI p [v1, v2] (some ⟨wb, 0, none⟩) wc)).length = i := by rw [List.length_set, hm2l]
    have hgl3 : (grC (m2.set j (setI p [v1, v2, w1, w2] (some ⟨wb, 0, none⟩) wc))).length = i * 5 := by rw [grC_len, hlen]
    (first | refine wX ?_ | exact wZ)
    refine Nd.mk ⟨rfl, by omega, by omega⟩ ?_
    (first | refine wX ?_ | exact wZ)
    refine LdN.fld (.slice (some ⟨wb, 0, none⟩) (List.length [v1, v2, w1, w2]) wc) rfl (fun w hw => hw.2.1) (by rw [Int.toNat_natCast]; exact grC_get _ j 4 (by decide) hp2) ?_
    (first | refine wX ?_ | exact wZ)
    refine ReadW.slc_h (ob := some wb) rfl (by kernel_rfl) rfl rfl ⟨by decide, by first | decide | omega⟩ ?_
    (first | refine wX ?_ | exact wZ)
    refine Nd.mk ⟨rfl, by omega, by omega⟩ ?_
    (first | refine wX ?_ | exact wZ)
    refine EffW.appTo (i := 1) (q := j * 5 + 4) (ys := [.slice (some ⟨wb, 0, none⟩) 2 wc]) (grC (m2.set j (setI p [v1, v2] (some ⟨wb, 0, none⟩) wc))) 5 rfl (by rw [Int.toNat_natCast]; show AV.c (CV.v (Value.pointer (some (((⟨gb, 0, none⟩ : Addr).add (j * 5)).add 4)))) = _; rw [add_lit0, add_lit]) rfl rfl rfl rfl rfl (by show _ + 1 ≤ _ * 5; omega) (by rw [put_set _ (by omega)]; have := grC_set [v1, v2] (some ⟨wb, 0, none⟩) wc hp2; rw [List.set_set] at this; exact this) rfl ?_
    (first | refine wX ?_ | exact wZ)
    refine ⟨(j + 1, m2.set j (setI p [v1, v2] (some ⟨wb, 0, none⟩) wc)), ⟨by omega, hlen2, hG2⟩, by show i - (j + 1) < i - j; omega, ?_, [.fact (fun w => SlAt a (L.length * 1) (iC L) w), .app 57 5 (grC (m2.set j (setI p [v1, v2] (some ⟨wb, 0, none⟩) wc))) (some ⟨gb, 0, none⟩) i oc, .fact (fun w => ∀ q ∈ m2.set j (setI p [v1, v2] (some ⟨wb, 0, none⟩) wc), CellF q w), .dead, .dead, .dead, .dead], turnS ⟨.inr (.inl rfl), .inr (.inl rfl), .inr (.inr ⟨_, rfl, fun w hw => set_rows hpm hw.2.1 (SlAt.take (j := 2) hw.2.2.1 (Nat.le_of_ble_eq_true rfl))⟩), by repeat (first | exact trivial | refine ⟨.inl rfl, ?_⟩)⟩, wkE_refl _, wkE_refl _, wkE_refl _, trivial⟩
    exact wKK
  ·have hjn : j = i := by omega
   subst hjn
   have hob : at0 ob = none → m2 = [] := fun h => by
    cases ob with
    | none =>
     have := hoa rfl
     subst this
     simp only [List.length_nil] at hml
     exact List.eq_nil_of_length_eq_zero (by omega)
    | some b => cases h
   have hs2 := grw_small hm2o (by omega)
   (first | refine wX ?_ | exact wZ)
   refine loopS Nat (fun k => k ≤ j) (fun k => mkS Tryz.f12.ntmps 0 [(3, .c (.v (.int .i64 (j : Int)))), (4, .c (.v (.slice (at0 ob) j oc))), (12, .c (.v (.int .i64 (k : Int))))]) (fun k => j - k) rfl (fun _ => rfl) 0 (Nat.zero_le _) ?_ ?_
   ·exact wKK
   intro k hk
   (first | refine wX ?_ | exact wZ)
   refine brd_dec (fun h3 => ?_) (fun h3 => ?_)
   ·obtain ⟨p, hp⟩ : ∃ p, m2[k]? = some p := ⟨_, List.getElem?_eq_getElem (by omega)⟩
    have hpm := List.mem_of_getElem? hp
    have hpo := hm2o p hpm
    have hpl := hpo.il
    have hsg : (at0 ob).isSome = true := by
     cases hq : at0 ob with
     | none => rw [hob hq] at hp; cases hp
     | some b => rfl
    (first | refine wX ?_ | exact wZ)
    refine loopS Nat (fun e => e ≤ p.c.items.length) (fun e => mkS Tryz.f12.ntmps 0 [(3, .c (.v (.int .i64 (j : Int)))), (4, .c (.v (.slice (at0 ob) j oc))), (12, .c (.v (.int .i64 (k : Int)))), (13, .c (.v (.int .i64 (e : Int))))]) (fun e => p.c.items.length - e) rfl (fun _ => rfl) 0 (Nat.zero_le _) ?_ ?_
    ·exact wKK
    intro e he
    (first | refine wX ?_ | exact wZ)
    refine Nd.mk ⟨hsg, by omega, by omega⟩ ?_
    (first | refine wX ?_ | exact wZ)
    refine LdN.fld (.slice p.ia p.c.items.length p.ic) rfl (fun w hw => hw.2.1) (by rw [Int.toNat_natCast]; exact grC_get m2 k 4 (by decide) hp) ?_
    (first | refine wX ?_ | exact wZ)
    refine brd_dec (fun h4 => ?_) (fun h4 => ?_)
    ·obtain ⟨y, hy⟩ : ∃ z, p.c.items[e]? = some z := ⟨_, List.getElem?_eq_getElem (by omega)⟩
     have hya : p.ia.isSome = true := by
      cases hq : p.ia with
      | none => rw [hpo.ok.ia hq] at hy; cases hy
      | some b => rfl
     (first | refine wX ?_ | exact wZ)
     refine Nd.mk ⟨hsg, by omega, by omega⟩ ?_
     (first | refine wX ?_ | exact wZ)
     refine LdN.fld (.slice p.ia p.c.items.length p.ic) rfl (fun w hw => hw.2.1) (by rw [Int.toNat_natCast]; exact grC_get m2 k 4 (by decide) hp) ?_
     (first | refine wX ?_ | exact wZ)
     refine Nd.mk ⟨hya, by omega, by omega⟩ ?_
     (first | refine wX ?_ | exact wZ)
     refine LdN.one (.int .i64 y) rfl (fun w hw => (hw.2.2.1 p hpm).2) (by rw [Int.toNat_natCast]; show (iC p.c.items)[e * 1]? = _; rw [Nat.mul_one]; exact iC_get hy) ?_
     (first | refine wX ?_ | exact wZ)
     refine brd_dec (fun h5 => absurd h5 (by have := hpo.it y (List.mem_of_getElem? hy); omega)) (fun h5 => ?_)
     (first | refine wX ?_ | exact wZ)
     refine ⟨e + 1, by omega, by omega, ?_, wHH⟩
     exact wKK
    ·(first | refine wX ?_ | exact wZ)
     refine ⟨k + 1, by omega, by omega, ?_, wHH⟩
     exact wKK
   ·(first | refine wX ?_ | exact wZ)
    have has := as_o (at0 ob) oc m2 hob hs2 (fun q hq => (hm2o q hq).ok)
    rw [hm2l] at has
    refine factG (fun _ => rfl) has ?_ fun st hst => ?_
    ·exact fun w hw => ⟨by rw [hm2l]; exact hw.2.1, hw.2.2.1⟩
    obtain ⟨t, ht1, ht2⟩ := Valid_b st.oa st.oc st.m hst.oa (by have := congrArg List.length hst.c; simp only [List.length_map] at this; omega) hst.ok
    (first | refine wX ?_ | exact wZ)
    refine call1 (ht2 _ (fun w hw => hst.gr hw.2.2.2.1 hw.2.2.2.2.1)) ?_
    cases t with
    | false =>
     (first | refine wX ?_ | exact wZ)
     exact fin_p (fun _ => True) ⟨none, 0, [], rfl, fun _ => rfl, (fun p h => by cases h), ⟨Nat.zero_le _, fun p h => by cases h⟩, .inl rfl, ⟨Nat.zero_le _, fun p h => by cases h⟩, fun w _ => ⟨SlAt.nil, fun p h => by cases h⟩⟩ fun w hw => trivial
    | true =>
     (first | refine wX ?_ | exact wZ)
     exact fin_p (GrF (at0 ob) m2) ⟨at0 ob, oc, m2, by rw [hm2l], hob, (fun p hp => (hm2o p hp).ok), hs2, .inr (by rw [← hst.c]; exact ht1.1 rfl), ⟨by omega, fun p hp => ⟨(hm2o p hp).il, (hm2o p hp).nl, (hm2o p hp).tl⟩⟩, fun w hw => hw⟩ fun w hw => ⟨by rw [hm2l]; exact hw.2.1, hw.2.2.1⟩
end Go.Proofs.YtgogonnnojcioaaGreatDoor

/-
 Contract: bytes that were written, cut off anywhere, or with a byte behind them (law).
-/
namespace Go.Proofs.YtgogonnnojcioaaGreatDoor
open Go.AX Go.RowKit Go.Core Go.Marshal
set_option maxRecDepth 20000

theorem tmod_n {X : Int} {n : Nat} (hX : 0 ≤ X ∧ X < 18446744073709551616) (hn : 0 < n) (h500 : n ≤ 20000) : ∃ k : Nat, k < n ∧ IntKind.i64.wrap (X.tmod (IntKind.u64.wrap (n : Int))) = (k : Int) := by
 have hwl : IntKind.u64.wrap (n : Int) = (n : Int) := wrap_u64 (by omega)
 rw [hwl, Int.tmod_eq_emod_of_nonneg hX.1]
 have h1 : 0 ≤ X % (n : Int) := Int.emod_nonneg _ (by omega)
 have h2 : X % (n : Int) < n := Int.emod_lt_of_pos _ (by omega)
 exact ⟨(X % (n : Int)).toNat, by omega, by rw [wrap_i64 (by omega)]; omega⟩
theorem u64_in (u : Int) : 0 ≤ IntKind.u64.wrap u ∧ IntKind.u64.wrap u < 18446744073709551616 := by rw [wrap_u64_eq]; omega
set_option maxHeartbeats 4000000 in
theorem MarshalCut_c (a : Option Addr) (ca : Nat) (L : List Int) (ha : a = none → L = []) (hl : L.length ≤ 200000000000000) (u n : Int) : ∀ H, (∀ w, Facts H w → SlAt a (L.length * 1) (iC L) w) → SpecH Tryz.prog 6 (pvs [.slice a L.length ca, .int .i64 u, .int .i64 n]) H (Ret (.bool true) H) := by
 refine factC hm Tryz.func6 (by kernel_rfl) rfl rfl ?_
 ((conv => whnf); (repeat ((first | refine VrN.keep ?_ | refine BoxN.own ?_ | refine RwN.own ?_); (conv => whnf))))
 refine SpecF.call (Grown_c a ca L ha hl) (fun w hw => hw.1) fun v G hR => ?_
 obtain ⟨oa, oc, m, rfl, hoa, hok, hs, hv, ⟨hl12, hsm⟩, hG⟩ := hR
 (first | refine wX ?_ | exact wZ)
 by_cases hm0 : m = []
 ·subst hm0
  (first | refine wX ?_ | exact wZ)
  refine call1 (sane_m _) ?_
  (first | refine wX ?_ | exact wZ)
 have hmp : 0 < m.length := by cases m with
  | nil => exact absurd rfl hm0
  | cons _ _ => simp
 have hvm : ValidP (m.map (·.c)) := hv.resolve_left hm0
 have tiny : Tiny (m.map (·.c)) := ⟨hvm, by rw [List.length_map]; exact hl12, fun c hc => by
  obtain ⟨q, hq, rfl⟩ := List.mem_map.1 hc
  exact hsm q hq⟩
 obtain ⟨k, hk, hkw⟩ := tmod_n (u64_in u) hmp (by omega)
 have hkin : InI (m.map (·.c)) (k : Int) := ⟨by omega, by rw [List.length_map]; omega⟩
 obtain ⟨e, he, hes⟩ := Dump_c oc hoa hs hok (k : Int)
 have het : e = true := he.2 ⟨hvm, fun x hx => by obtain rfl := List.mem_singleton.1 hx; exact hkin⟩
 subst het
 obtain ⟨hdl, hd3⟩ := tiny.dump_len hkin
 obtain ⟨q, org, cs, hload, _⟩ := tiny.load hkin
 obtain ⟨hcut, happ⟩ := load_cut hload
 rw [show (if true = true then dumpS (m.map (·.c)) (k : Int) else []) = dumpS (m.map (·.c)) (k : Int) from rfl] at hes
 generalize dumpS (m.map (·.c)) (k : Int) = D at hes hdl hd3 hload hcut happ
 rw [show ((m.length : Int) == 0) = false by rw [beq_eq_false_iff_ne]; omega]
 (first | refine wX ?_ | exact wZ)
 refine Nd.mk (by rw [wrap_u64 (by omega)]; omega) ?_
 (first | refine wX ?_ | exact wZ)
 rw [hkw]
 refine call1 (hes _ (fun w hw => hG w hw.2.1)) ?_
 obtain ⟨k2, hk2, hkw2⟩ := tmod_n (u64_in n) (show 0 < D.length by omega) (by omega)
 have hsz := bs_size D
 have h14 : loadS (D.take k2) = .error 14 := hcut _ (D.drop k2) (List.take_append_drop k2 D).symm (fun h => by
  have := congrArg List.length h
  rw [List.length_drop] at this
  have h0 : ([] : List UInt8).length = 0 := rfl
  omega)
 have h4 : loadS (D ++ [48]) = .error 4 := happ (by omega)
 (first | refine wX ?_ | exact wZ)
 rw [hsz, show ((D.length : Int) == 0) = false by rw [beq_eq_false_iff_ne]; omega]
 (first | refine wX ?_ | exact wZ)
 refine Nd.mk (by rw [hsz, wrap_u64 (by omega)]; omega) ?_
 (first | refine wX ?_ | exact wZ)
 have hkw3 : IntKind.i64.wrap ((IntKind.u64.wrap n).tmod (IntKind.u64.wrap ((bs D).size : Int))) = (k2 : Int) := by rw [hsz]; exact hkw2
 rw [hkw3]
 refine ReadW.str_h rfl (by kernel_rfl) rfl rfl ⟨by omega, by omega⟩ ?_
 rw [bs_take, Int.toNat_natCast]
 ((conv => whnf); (repeat ((first | refine VrN.keep ?_ | refine BoxN.own ?_ | refine RwN.own ?_); (conv => whnf))))
 refine SpecF.call (MCheck_c (D.take k2)) (fun w _ => trivial) fun v2 G2 hR2 => ?_
 subst hR2
 rw [h14, show errS (.error 14 : Except Int (List Cell × List B)) = 14 from rfl]
 (first | refine wX ?_ | exact wZ)
 refine Nd.mk (by rw [hsz]; show D.length + 1 < _; omega) ?_
 rw [show (⟨#[48]⟩ : ByteArray) = bs [48] from rfl, bs_app]
 ((conv => whnf); (repeat ((first | refine VrN.keep ?_ | refine BoxN.own ?_ | refine RwN.own ?_); (conv => whnf))))
 refine SpecF.call (MCheck_c (D ++ [48])) (fun w _ => trivial) fun v3 G3 hR3 => ?_
 subst hR3
 rw [h4, show errS (.error 4 : Except Int (List Cell × List B)) = 4 from rfl]
 (first | refine wX ?_ | exact wZ)
 refine call1 (sane_m _) ?_
 (first | refine wX ?_ | exact wZ)
end Go.Proofs.YtgogonnnojcioaaGreatDoor

/-
 MarshalCutCardSaid is proved: of every numbers MarshalCut returns true; the listed tables are tied to the program's text.
-/
namespace Go.Proofs.YtgogonnnojcioaaGreatDoor
open Go.ChangeShapes Go.WideShapes Go.ChangeAt Go.RowKit Go.AX Go.Core
set_option maxRecDepth 100000

namespace MarshalCut
theorem own : ownKnob Tryz.prog.godebug = none := own0
theorem walk {H : Type} {enc : TypeId × Value → H} (W : World) (base : Nat) (args : Array Value) (ds : List (DataW H)) (p : List MemPlace) (k : Known enc Tryz.prog Tryz.f6 W base args ds p) (_hL : laidMetH Tryz.prog laid3 W) : Walk Tryz.prog 6 args W := by
 obtain ⟨u, v, z, rfl⟩ := arr3 (trodAll_len k.trod).2
 obtain ⟨i, rfl⟩ := okWide_int Tryz.underlying3 (k.val 1 _ v rfl rfl)
 obtain ⟨j, rfl⟩ := okWide_int Tryz.underlying3 (k.val 2 _ z rfl rfl)
 obtain ⟨a, l, cap, rfl, ⟨_hq, ha, hs⟩, _, _⟩ := k.low.ints (e := 3) (i := .i64) 0 rfl rfl (by kernel_rfl) (by kernel_rfl) (by kernel_rfl) (by decide +kernel)
 have nil_of : ∀ {a : Option Addr} {l : List Int}, a.isSome = true ∨ l.length = 0 → a = none → l = [] := fun {a l} h e => by
  rcases h with h | h
  ·rw [e] at h; cases h
  ·exact List.eq_nil_of_length_eq_zero h
 exact walkH [.fact (SlAt a (l.length * 1) (iC l))] (fun _ he => ⟨_, List.mem_singleton.1 he, by rw [Nat.mul_one]; exact hs⟩) (MarshalCut_c a cap l (nil_of ha) _hq i j _ fun w hw => hw.1)

theorem lifted (os : Os) (started : os.Started) (H : Type) (enc : TypeId × Value → H) :
  ReturnsInHanded {} Tryz.checked os 6 .any (fun w args => (Rows.marshalCutSpec.pre enc Tryz.prog Tryz.f6 [] false w args ∧ laidMetH Tryz.prog laid3 w) ∧ sizedMet enc Tryz.prog Tryz.f6 (OpenSpec.ofChange Rows.marshalCutSpec) false w args) (Rows.marshalCutSpec.post enc Tryz.prog Tryz.f6 false true false false) := by
 refine liftS (C := Tryz.checked) own started (by kernel_rfl) Tryz.func6
  (ChangeSpec.witness_shaped (enc := enc) (C := Tryz.checked) (os := os) (X := fun w _ => laidMetH Tryz.prog laid3 w) false (World.laidAll Tryz.prog os laid3) #[.slice none 0 0, .int .i64 0, .int .i64 0] 8 (World.laidAll_os _ _ _) (World.shaped_of_ZipB (by kernel_rfl) (by kernel_rfl)) (by kernel_rfl) (by kernel_rfl) (by kernel_rfl) (door_met os _))
  laidOut rfl (t := _) rfl (by kernel_rfl) (by kernel_rfl) ?_ walk
 intro ds hd
 match ds, hd with
 | [d0, d1, d2], _ => rfl

theorem over : Rows.marshalCutRow.holds Tryz.pinned (OpenSpec.ofChange Rows.marshalCutSpec) :=
 OpenClaim.holds_of_wide 6 Tryz.f6 rfl rfl rfl rfl rfl rfl rfl ⟨rfl, rfl, rfl, rfl, rfl⟩ rfl rfl rfl rfl rfl (by kernel_rfl) Tryz.func6 (by kernel_rfl)
  (of_decide_eq_true (by kernel_rfl)) (by unfold Func.isWrapper; first | (rw [if_pos (by decide +kernel)]; kernel_rfl) | (rw [if_neg (by decide +kernel)]; exact ⟨rfl, rfl⟩))
  (fun os started H enc _ => lifted os started H enc)

theorem proved : Rows.MarshalCutCardSaid :=
 Claim7.holds_tied_plain_at .later [] [.data, .pinned] true (true, "92e2ed60dd5b2613fe6e0d172a7e2bd0782f276a49ab098c444f4227433a6c5a") false
  over (fun _ h => by cases h) (by kernel_rfl) (fun _ h => by cases h) marshalCut_row_tie rfl ⟨rfl, rfl⟩ (by kernel_rfl) rfl
  (fun f fn hf hfn => by
   obtain rfl : f = 6 := Option.some.inj ((show Tryz.prog.funcNamed "cabochon/cabochonlaw29.MarshalCut" = some 6 by kernel_rfl).symm.trans hf) |>.symm
   obtain rfl : fn = Tryz.f6 := (Option.some.inj (Tryz.func6.symm.trans hfn)).symm
   exact ⟨by kernel_rfl, fun j t ht => by
    have hm : t ∈ Tryz.f6.params.toList := by simpa using Array.mem_of_getElem? ht
    have hall : (Tryz.f6.params.toList.all fun u => !Tryz.prog.wantsStandIn u) = true := by kernel_rfl
    exact (show Tryz.prog.wantsStandIn t = false by simpa using List.all_eq_true.1 hall t hm)⟩)
  (by kernel_rfl)
#print axioms proved
end MarshalCut
end Go.Proofs.YtgogonnnojcioaaGreatDoor
