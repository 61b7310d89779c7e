/-
  CoreComparesCardSaid is proved: of every graph and two cells CoreCompares returns true and leaves its arguments as they were; the listed tables are tied to the program's text.
-/
import Derived.Test.YtahjbnfbilkbcaaGreatDoorCards
import Derived.Test.YtahjbnfbilkbcaaGreatDoorTie
import Derived.Test.YtahjbnfbilkbcaaGreatDoorCmp9
/-
  Contract: Compare's closure (program).
-/
namespace Go.Core
theorem left_cons {g : List Cell} {u : List (Int × Int)} {p : Int × Int} (hp : InP g p) (hn : p ∉ u) : left g (p :: u) < left g u :=
  Nat.lt_of_le_of_lt (left_mono fun q hq => by
    rcases List.mem_append.1 hq with h | h
    · simp [h]
    · simp [List.mem_singleton.1 h]) (left_lt hp hn)
/-- What a list of pairs holds. -/
def lk {α : Type} [DecidableEq α] (k : α) (R : List (α × Value)) : Option Value := R.lookup k
theorem lk_eq {α : Type} [DecidableEq α] (B : BEq α) (hB : ∀ a b : α, @BEq.beq α B a b = decide (a = b)) (k : α) : ∀ R : List (α × Value), lk k R = @List.lookup α Value B k R
  | [] => rfl
  | (q, x) :: R => by
    have ih := lk_eq B hB k R
    unfold lk at ih ⊢
    by_cases e : k = q
    · have h1 : (@BEq.beq α instBEqOfDecidableEq k q) = true := by simp [e]
      have h2 : @BEq.beq α B k q = true := by rw [hB]; simp [e]
      simp only [List.lookup, h1, h2]
    · have h1 : (@BEq.beq α instBEqOfDecidableEq k q) = false := by simp [e]
      have h2 : @BEq.beq α B k q = false := by rw [hB]; simp [e]
      simp only [List.lookup, h1, h2, ih]
theorem lk_pair (p : Int × Int) (R : List ((Int × Int) × Value)) : lk p R = R.lookup p := lk_eq _ (fun a b => by rw [Bool.eq_iff_iff]; simp) p R
/-- What the map of those under way holds. -/
def undR (u : List (Int × Int)) : List ((Int × Int) × Value) := seenR u.reverse
theorem und_get (u : List (Int × Int)) (p : Int × Int) : (lk p (undR u)).getD (.bool false) = .bool (decide (p ∈ u)) := by
  rw [lk_pair]
  unfold undR
  rw [seen_get]
  simp
theorem upd_new {α : Type} [DecidableEq α] {k : α} {v : Value} : ∀ {R : List (α × Value)}, lk k R = none → Go.AX.upd k v R = R ++ [(k, v)]
  | [], _ => rfl
  | (q, x) :: R, h => by
    unfold lk at h
    rw [List.lookup_cons] at h
    by_cases e : k = q
    · subst e; simp at h
    · rw [show (k == q) = false by simp [e]] at h
      unfold Go.AX.upd
      rw [if_neg e, upd_new h]
      rfl
theorem und_put {u : List (Int × Int)} {p : Int × Int} (h : p ∉ u) : Go.AX.upd p (.bool true) (undR u) = undR (p :: u) := by
  rw [upd_new (by rw [lk_pair]; unfold undR; exact seen_none (by simpa using h))]
  unfold undR
  rw [List.reverse_cons]
  unfold seenR
  simp
theorem seek_app {α : Type} [DecidableEq α] {k : α} {v : Value} : ∀ {R : List (α × Value)} (i : Nat), lk k R = none → Go.AX.seek k (R ++ [(k, v)]) i = some (i + R.length, v)
  | [], i, _ => by simp [Go.AX.seek]
  | (q, x) :: R, i, h => by
    unfold lk at h
    rw [List.lookup_cons] at h
    by_cases e : k = q
    · subst e; simp at h
    · rw [show (k == q) = false by simp [e]] at h
      rw [List.cons_append]
      unfold Go.AX.seek
      rw [if_neg e, seek_app (i + 1) h]
      simp only [List.length_cons]
      congr 2
      omega
theorem und_seek {u : List (Int × Int)} {p : Int × Int} (h : p ∉ u) : Go.AX.seek p (undR (p :: u)) 0 = some (u.length, .bool true) ∧ (undR (p :: u)).eraseIdx u.length = undR u := by
  have e : undR (p :: u) = undR u ++ [(p, .bool true)] := by
    unfold undR
    rw [List.reverse_cons]
    unfold seenR
    simp
  have hl : (undR u).length = u.length := by unfold undR seenR; simp
  rw [e]
  refine ⟨by rw [seek_app 0 (by rw [lk_pair]; unfold undR; exact seen_none (by simpa using h)), hl]; simp, ?_⟩
  rw [← hl]
  rw [List.eraseIdx_append_of_length_le (Nat.le_refl _), Nat.sub_self]
  simp
/-- Cells of the nine kinds. -/
def KindOk (g : List Cell) : Prop := ∀ c ∈ g, 0 ≤ c.kind ∧ c.kind ≤ 8
/-- What the map of those found holds. -/
def DoneM (R : List ((Int × Int) × Value)) (d : List (Int × Int)) : Prop := ∀ p, (lk p R).getD (.bool false) = .bool (decide (p ∈ d))
theorem DoneM.put {R : List ((Int × Int) × Value)} {d : List (Int × Int)} (h : DoneM R d) (p : Int × Int) : DoneM (Go.AX.upd p (.bool true) R) (p :: d) := fun q => by
  have h1 := Go.AX.look_upd p q (.bool true) R
  have h2 : lk q (Go.AX.upd p (.bool true) R) = if q = p then some (.bool true) else lk q R := h1
  rw [h2]
  by_cases e : q = p
  · rw [if_pos e]; simp [e]
  · rw [if_neg e, h q]; simp [e]
theorem cmpL_at {α : Type} {f : α → Int × Int → (Int × Int) × α} {d : α} {l : List (Int × Int)} {k : Nat} {p : Int × Int} (h : l[k]? = some p) : cmpL f d (l.drop k) = match f d p with | (r, d') => if r.1 = 0 ∧ r.2 = 0 then cmpL f d' (l.drop (k + 1)) else (r, d') := by
  obtain ⟨hlt, hx⟩ := List.getElem?_eq_some_iff.1 h
  rw [List.drop_eq_getElem_cons hlt, hx]
  rfl
end Go.Core
namespace Go.Proofs.YtahjbnfbilkbcaaGreatDoor
open Go.AX Go.RowKit Go.Core
set_option maxRecDepth 20000

/-- What the closure knows. -/
def cmF (a : Option Addr) (ca : Nat) (l : List CellP) (gb ub db fb mu md : Nat) (w : World) : Prop :=
  GrF a l w ∧ SlAt (some ⟨gb, 0, none⟩) 1 [.slice a l.length ca] w ∧ SlAt (some ⟨ub, 0, none⟩) 1 [.map (some mu)] w ∧ SlAt (some ⟨db, 0, none⟩) 1 [.map (some md)] w ∧
    SlAt (some ⟨fb, 0, none⟩) 1 [.func (.func 62) #[] #[.pointer (some ⟨gb, 0, none⟩), .pointer (some ⟨ub, 0, none⟩), .pointer (some ⟨db, 0, none⟩), .pointer (some ⟨fb, 0, none⟩)]] w
def cmA (u v : Int) (gb ub db fb : Nat) : List AV := pvs [.int .i64 u, .int .i64 v, .pointer (some ⟨gb, 0, none⟩), .pointer (some ⟨ub, 0, none⟩), .pointer (some ⟨db, 0, none⟩), .pointer (some ⟨fb, 0, none⟩)]
structure MSt where
  eu : Array MapEntry
  cu : Nat
  ed : Array MapEntry
  cd : Nat
def cmH (F : World → Prop) (mu md : Nat) (i : MSt) : List Ent := [.mp mu i.eu i.cu, .mp md i.ed i.cd, .fact F]
theorem cmH_ok (F : World → Prop) (mu md : Nat) (i : MSt) : okH (cmH F mu md i).length (cmH F mu md i) := okHB_eq rfl
/-- What the maps hold; u: those under way, d: those found (where that is told). -/
def CmOk (u : List (Int × Int)) (d : List (Int × Int)) (b : Prop) (i : MSt) : Prop := KeysAre pairV i.eu.toList (undR u) ∧ ∃ R, KeysAre pairV i.ed.toList R ∧ (b → DoneM R d)
theorem mapPB : Tryz.prog.underlying 93 = some (.map 95 4) := by kernel_rfl
theorem pairK : KeyT Tryz.prog 95 pairV := pairKeyT pairT
set_option maxHeartbeats 8000000 in
theorem compare_c (a : Option Addr) (ca : Nat) (l : List CellP) (ha : a = none → l = []) (hs : Small l) (hok : ∀ p ∈ l, CellOk p) (hg : InG (l.map (·.c))) (hkd : KindOk (l.map (·.c))) (gb ub db fb mu md : Nat) : ∀ (n : Nat) (u d : List (Int × Int)) (i : MSt) (p : Int × Int), InP (l.map (·.c)) p → left (l.map (·.c)) u < n → CmOk u d True i →
    SpecH Tryz.prog 62 (cmA p.1 p.2 gb ub db fb) (cmH (cmF a ca l gb ub db fb mu md) mu md i)
      (RetG (ι := MSt) (fun j => CmOk u (cmpF 3 10 (l.map (·.c)) n u d p).2 ((cmpF 3 10 (l.map (·.c)) n u d p).1 = (0, 0)) j) (fun _ => .tuple #[.int .i64 (cmpF 3 10 (l.map (·.c)) n u d p).1.1, .int .i64 (cmpF 3 10 (l.map (·.c)) n u d p).1.2]) (cmH (cmF a ca l gb ub db fb mu md) mu md)) := by
  intro n
  induction n with
  | zero => intro u d i p _ h; omega
  | succ n ih =>
    rintro u d ⟨eu, cu, ed, cd⟩ ⟨u0, v0⟩ hp hn ⟨hU, R, hR, hD⟩
    simp only at hU hR
    have hD := hD trivial
    obtain ⟨x1, rfl⟩ : ∃ x1 : Nat, u0 = (x1 : Int) := ⟨u0.toNat, by have := hp.1; simp only at this; omega⟩
    obtain ⟨y1, rfl⟩ : ∃ y1 : Nat, v0 = (y1 : Int) := ⟨v0.toNat, by have := hp.2; simp only at this; omega⟩
    have hu : x1 < l.length := by have := hp.1.2; simp only [List.length_map] at this; omega
    have hv : y1 < l.length := by have := hp.2.2; simp only [List.length_map] at this; omega
    obtain ⟨x, hx⟩ : ∃ x, l[x1]? = some x := ⟨_, List.getElem?_eq_getElem hu⟩
    obtain ⟨y, hy⟩ : ∃ y, l[y1]? = some y := ⟨_, List.getElem?_eq_getElem hv⟩
    have hxm := List.mem_of_getElem? hx
    have hym := List.mem_of_getElem? hy
    have hxo := hok x hxm
    have hyo := hok y hym
    have hxs := hs.2 x hxm
    have hys := hs.2 y hym
    have hl := hs.1
    have hkx := hkd x.c (List.mem_map.2 ⟨x, hxm, rfl⟩)
    have hsa : a.isSome = true := by
      cases a with
      | none => rw [ha rfl] at hu; exact absurd hu (Nat.not_lt_zero _)
      | some b => rfl
    have hcmp : cmpF 3 10 (l.map (·.c)) (n + 1) u d ((x1 : Int), (y1 : Int)) = if x.c.kind ≠ y.c.kind ∨ cmpable x.c.kind = false then ((0, 3), d)
        else if x.c.kind ≠ 6 then ((leafC x.c y.c, 0), d) else if ((x1 : Int), (y1 : Int)) ∈ u then ((0, 10), d) else if ((x1 : Int), (y1 : Int)) ∈ d then ((0, 0), d)
        else match cmpL (cmpF 3 10 (l.map (·.c)) n (((x1 : Int), (y1 : Int)) :: u)) d (x.c.items.zip y.c.items) with
          | (r, d') => if r.1 = 0 ∧ r.2 = 0 then ((sgn (x.c.items.length : Int) (y.c.items.length : Int), 0), if sgn (x.c.items.length : Int) (y.c.items.length : Int) = 0 then ((x1 : Int), (y1 : Int)) :: d' else d') else (r, d') := by
      conv => lhs; unfold cmpF
      have hnx : nextP (l.map (·.c)) ((x1 : Int), (y1 : Int)) = x.c.items.zip y.c.items := by unfold nextP; rw [at_map hx, at_map hy]
      rw [hnx]
      simp only [at_map hx, at_map hy]
    show SpecH _ _ (cmA (x1 : Int) (y1 : Int) gb ub db fb) _ _
    rw [hcmp]
    clear hcmp
    obtain ⟨W, hW⟩ : ∃ W, W = (if x.c.kind ≠ y.c.kind ∨ cmpable x.c.kind = false then ((0, 3), d)
        else if x.c.kind ≠ 6 then ((leafC x.c y.c, 0), d) else if ((x1 : Int), (y1 : Int)) ∈ u then ((0, 10), d) else if ((x1 : Int), (y1 : Int)) ∈ d then ((0, 0), d)
        else match cmpL (cmpF 3 10 (l.map (·.c)) n (((x1 : Int), (y1 : Int)) :: u)) d (x.c.items.zip y.c.items) with
          | (r, d') => if r.1 = 0 ∧ r.2 = 0 then ((sgn (x.c.items.length : Int) (y.c.items.length : Int), 0), if sgn (x.c.items.length : Int) (y.c.items.length : Int) = 0 then ((x1 : Int), (y1 : Int)) :: d' else d') else (r, d')) := ⟨_, rfl⟩
    rw [← hW]
    refine SpecH.wkG (fun _ _ => cmH_ok _ _ _ _) (fun _ _ => Nat.le_refl _) ?_
    refine spec_of_quit hm [_, _, _, _, _] [_, _] _ Tryz.func62 (by kernel_rfl) rfl rfl rfl ?_
    (conv => whnf)
    refine DrawN.planR hm (fun w => cmF a ca l gb ub db fb mu md w) [1, 5] [(0, 1), (4, 1), (2, 1), (3, 1), (6, 1), (7, 1), (8, 2), (9, 2), (10, 0), (11, 0)] (by decide +kernel) (fun w hw => hw.2.2.1) ?_
    -- fun w hw => hw.2.2.1: why the kind holds
    ((conv => whnf); (repeat ((first | refine Nd.mk (fun w hw => hw.2.2.1) ?_ | refine VrN.norm (wrap_i64 (by omega)) ?_ | refine VrN.keep ?_ | refine Nd.mk (by decide +kernel) ?_ | refine Nd.mk (by omega) ?_ | refine RdN.intro _ rfl (by rfl) ?_); (conv => whnf))))
    refine ReadC.one (a := some ⟨gb, 0, none⟩) (q := 0) (.slice a l.length ca) rfl rfl rfl (fun w hw => hw.2.1) rfl ?_
    -- fun w hw => hw.2.2.1: why the kind holds
    ((conv => whnf); (repeat ((first | refine Nd.mk (fun w hw => hw.2.2.1) ?_ | refine VrN.norm (wrap_i64 (by omega)) ?_ | refine VrN.keep ?_ | refine Nd.mk (by decide +kernel) ?_ | refine Nd.mk (by omega) ?_ | refine RdN.intro _ rfl (by rfl) ?_); (conv => whnf))))
    refine ReadC.one (a := some ⟨gb, 0, none⟩) (q := 0) (.slice a l.length ca) rfl rfl rfl (fun w hw => hw.2.1) rfl ?_
    -- fun w hw => hw.2.2.1: why the kind holds
    ((conv => whnf); (repeat ((first | refine Nd.mk (fun w hw => hw.2.2.1) ?_ | refine VrN.norm (wrap_i64 (by omega)) ?_ | refine VrN.keep ?_ | refine Nd.mk (by decide +kernel) ?_ | refine Nd.mk (by omega) ?_ | refine RdN.intro _ rfl (by rfl) ?_); (conv => whnf))))
    refine ReadC.idxA (e := 42) (sz := 5) x1 rfl Tryz.underlying22 rfl rfl rfl rfl hsa hu ?_
    -- fun w hw => hw.2.2.1: why the kind holds
    ((conv => whnf); (repeat ((first | refine Nd.mk (fun w hw => hw.2.2.1) ?_ | refine VrN.norm (wrap_i64 (by omega)) ?_ | refine VrN.keep ?_ | refine Nd.mk (by decide +kernel) ?_ | refine Nd.mk (by omega) ?_ | refine RdN.intro _ rfl (by rfl) ?_); (conv => whnf))))
    refine ReadC.agg (cellC x) rfl rfl rfl (fun w hw => hw.1.1) rfl (fun k hk => grC_get l x1 k hk hx) ?_
    -- fun w hw => hw.2.2.1: why the kind holds
    ((conv => whnf); (repeat ((first | refine Nd.mk (fun w hw => hw.2.2.1) ?_ | refine VrN.norm (wrap_i64 (by omega)) ?_ | refine VrN.keep ?_ | refine Nd.mk (by decide +kernel) ?_ | refine Nd.mk (by omega) ?_ | refine RdN.intro _ rfl (by rfl) ?_); (conv => whnf))))
    refine ReadC.idxA (e := 42) (sz := 5) y1 rfl Tryz.underlying22 rfl rfl rfl rfl hsa hv ?_
    -- fun w hw => hw.2.2.1: why the kind holds
    ((conv => whnf); (repeat ((first | refine Nd.mk (fun w hw => hw.2.2.1) ?_ | refine VrN.norm (wrap_i64 (by omega)) ?_ | refine VrN.keep ?_ | refine Nd.mk (by decide +kernel) ?_ | refine Nd.mk (by omega) ?_ | refine RdN.intro _ rfl (by rfl) ?_); (conv => whnf))))
    refine ReadC.agg (cellC y) rfl rfl rfl (fun w hw => hw.1.1) rfl (fun k hk => grC_get l y1 k hk hy) ?_
    -- fun w hw => hw.2.2.1: why the kind holds
    ((conv => whnf); (repeat ((first | refine Nd.mk (fun w hw => hw.2.2.1) ?_ | refine VrN.norm (wrap_i64 (by omega)) ?_ | refine VrN.keep ?_ | refine Nd.mk (by decide +kernel) ?_ | refine Nd.mk (by omega) ?_ | refine RdN.intro _ rfl (by rfl) ?_); (conv => whnf))))
    refine ReadW.pair rfl pairT rfl rfl rfl rfl ?_
    ((conv => whnf); (repeat ((first | refine RwN.own ?_ | refine VrN.norm (wrap_i64 (by omega)) ?_ | refine VrN.keep ?_ | refine DrawN.calm (by decide +kernel) ?_ | refine Nd.mk (by decide +kernel) ?_ | refine Nd.mk (by omega) ?_ | (refine Nd.mk ?_ ?_; focus ((repeat' (first | exact trivial | exact wkE_refl _ | refine And.intro ?_ ?_)); done)) | refine RdN.intro _ rfl (by rfl) ?_); (conv => whnf))))
    refine BoxN.known [.int .i64 0, .int .i64 0] rfl fun pb => ?_
    ((conv => whnf); (repeat ((first | refine RwN.own ?_ | refine VrN.norm (wrap_i64 (by omega)) ?_ | refine VrN.keep ?_ | refine DrawN.calm (by decide +kernel) ?_ | refine Nd.mk (by decide +kernel) ?_ | refine Nd.mk (by omega) ?_ | (refine Nd.mk ?_ ?_; focus ((repeat' (first | exact trivial | exact wkE_refl _ | refine And.intro ?_ ?_)); done)) | refine RdN.intro _ rfl (by rfl) ?_); (conv => whnf))))
    refine EffW.appTo (i := 5) (q := 0) (ys := [.int .i64 (x1 : Int), .int .i64 (y1 : Int)]) [.int .i64 (x1 : Int), .int .i64 (y1 : Int)] 2 rfl rfl rfl rfl rfl rfl rfl (Nat.le_of_ble_eq_true rfl) rfl rfl ?_
    obtain ⟨⟨kx, nx, tx, nmx, ix⟩, nax, ncx, iax, icx⟩ := x
    obtain ⟨⟨ky, ny, ty, nmy, iy⟩, nay, ncy, iay, icy⟩ := y
    simp only at hkx hW hxo hyo hxs hys
    have hkk : kx = 0 ∨ kx = 1 ∨ kx = 2 ∨ kx = 3 ∨ kx = 4 ∨ kx = 5 ∨ kx = 6 ∨ kx = 7 ∨ kx = 8 := by omega
    rcases hkk with rfl | rfl | rfl | rfl | rfl | rfl | rfl | rfl | rfl
    · (first | refine wX ?_ | exact wZ)
      refine brd_ne (fun h1 => ?_) (fun h1 => ?_)
      · (first | refine wX ?_ | exact wZ)
        -- no order
        obtain rfl : W = ((0, 3), d) := by rw [hW, if_pos (by first | exact .inl h1 | exact .inr (by decide))]
        exact ⟨⟨eu, cu, ed, cd⟩, ⟨hU, R, hR, fun h => by cases h⟩, rfl, wkE_refl _, wkE_refl _, wkE_refl _, trivial⟩
      · obtain rfl : ky = _ := h1.symm
        (first | refine wX ?_ | exact wZ)
        -- no order
        obtain rfl : W = ((0, 3), d) := by rw [hW, if_pos (by first | exact .inl h1 | exact .inr (by decide))]
        exact ⟨⟨eu, cu, ed, cd⟩, ⟨hU, R, hR, fun h => by cases h⟩, rfl, wkE_refl _, wkE_refl _, wkE_refl _, trivial⟩
    · (first | refine wX ?_ | exact wZ)
      refine brd_ne (fun h1 => ?_) (fun h1 => ?_)
      · (first | refine wX ?_ | exact wZ)
        -- no order
        obtain rfl : W = ((0, 3), d) := by rw [hW, if_pos (by first | exact .inl h1 | exact .inr (by decide))]
        exact ⟨⟨eu, cu, ed, cd⟩, ⟨hU, R, hR, fun h => by cases h⟩, rfl, wkE_refl _, wkE_refl _, wkE_refl _, trivial⟩
      · obtain rfl : ky = _ := h1.symm
        (first | refine wX ?_ | exact wZ)
        -- no order
        obtain rfl : W = ((0, 3), d) := by rw [hW, if_pos (by first | exact .inl h1 | exact .inr (by decide))]
        exact ⟨⟨eu, cu, ed, cd⟩, ⟨hU, R, hR, fun h => by cases h⟩, rfl, wkE_refl _, wkE_refl _, wkE_refl _, trivial⟩
    · (first | refine wX ?_ | exact wZ)
      refine brd_ne (fun h1 => ?_) (fun h1 => ?_)
      · (first | refine wX ?_ | exact wZ)
        -- no order
        obtain rfl : W = ((0, 3), d) := by rw [hW, if_pos (by first | exact .inl h1 | exact .inr (by decide))]
        exact ⟨⟨eu, cu, ed, cd⟩, ⟨hU, R, hR, fun h => by cases h⟩, rfl, wkE_refl _, wkE_refl _, wkE_refl _, trivial⟩
      · obtain rfl : ky = _ := h1.symm
        (first | refine wX ?_ | exact wZ)
        -- no order
        obtain rfl : W = ((0, 3), d) := by rw [hW, if_pos (by first | exact .inl h1 | exact .inr (by decide))]
        exact ⟨⟨eu, cu, ed, cd⟩, ⟨hU, R, hR, fun h => by cases h⟩, rfl, wkE_refl _, wkE_refl _, wkE_refl _, trivial⟩
    · (first | refine wX ?_ | exact wZ)
      refine brd_ne (fun h1 => ?_) (fun h1 => ?_)
      · (first | refine wX ?_ | exact wZ)
        -- no order
        obtain rfl : W = ((0, 3), d) := by rw [hW, if_pos (by first | exact .inl h1 | exact .inr (by decide))]
        exact ⟨⟨eu, cu, ed, cd⟩, ⟨hU, R, hR, fun h => by cases h⟩, rfl, wkE_refl _, wkE_refl _, wkE_refl _, trivial⟩
      obtain rfl : ky = _ := h1.symm
      (first | refine wX ?_ | exact wZ)
      refine DrawN.planQ [0, 2, 5, 7] [1, 3, 6, 8, 4, 9] [(10, 0), (11, 0), (12, 1), (13, 1)] (by decide +kernel) ?_
      ((conv => whnf); (repeat ((first | refine BoxN.own ?_ | refine VrN.norm (wrap_i64 (by omega)) ?_ | refine VrN.keep ?_ | refine DrawN.calm (by decide +kernel) ?_ | refine Nd.mk (by decide +kernel) ?_ | refine Nd.mk (by omega) ?_ | (refine Nd.mk ?_ ?_; focus ((repeat' (first | exact trivial | exact wkE_refl _ | refine And.intro ?_ ?_)); done)) | refine RdN.intro _ rfl (by rfl) ?_); (conv => whnf))))
      refine callQ (cmpInt_c nx ny _) ?_
      ((conv => whnf); (repeat ((first | refine BoxN.own ?_ | refine VrN.norm (wrap_i64 (by omega)) ?_ | refine VrN.keep ?_ | refine DrawN.calm (by decide +kernel) ?_ | refine Nd.mk (by decide +kernel) ?_ | refine Nd.mk (by omega) ?_ | (refine Nd.mk ?_ ?_; focus ((repeat' (first | exact trivial | exact wkE_refl _ | refine And.intro ?_ ?_)); done)) | refine RdN.intro _ rfl (by rfl) ?_); (conv => whnf))))
      refine callQ (cmpTxt_c tx ty _) ?_
      ((conv => whnf); (repeat ((first | refine BoxN.own ?_ | refine VrN.norm (wrap_i64 (by omega)) ?_ | refine VrN.keep ?_ | refine DrawN.calm (by decide +kernel) ?_ | refine Nd.mk (by decide +kernel) ?_ | refine Nd.mk (by omega) ?_ | (refine Nd.mk ?_ ?_; focus ((repeat' (first | exact trivial | exact wkE_refl _ | refine And.intro ?_ ?_)); done)) | refine RdN.intro _ rfl (by rfl) ?_); (conv => whnf))))
      refine RwN.known [.int .i64 (sgn nx ny), .int .i64 (tcmp tx ty)] rfl fun rb => ?_
      ((conv => whnf); (repeat ((first | refine BoxN.own ?_ | refine VrN.norm (wrap_i64 (by omega)) ?_ | refine VrN.keep ?_ | refine DrawN.calm (by decide +kernel) ?_ | refine Nd.mk (by decide +kernel) ?_ | refine Nd.mk (by omega) ?_ | (refine Nd.mk ?_ ?_; focus ((repeat' (first | exact trivial | exact wkE_refl _ | refine And.intro ?_ ?_)); done)) | refine RdN.intro _ rfl (by rfl) ?_); (conv => whnf))))
      refine call1 (Or_c (some ⟨rb, 0, none⟩) (sgn nx ny) (tcmp tx ty) rfl _ (fun w hw => hw.2.2.2.2.1)) ?_
      ((conv => whnf); (repeat ((first | refine BoxN.own ?_ | refine VrN.norm (wrap_i64 (by omega)) ?_ | refine VrN.keep ?_ | refine DrawN.calm (by decide +kernel) ?_ | refine Nd.mk (by decide +kernel) ?_ | refine Nd.mk (by omega) ?_ | (refine Nd.mk ?_ ?_; focus ((repeat' (first | exact trivial | exact wkE_refl _ | refine And.intro ?_ ?_)); done)) | refine RdN.intro _ rfl (by rfl) ?_); (conv => whnf))))
      obtain rfl : W = ((leafC ⟨3, nx, tx, nmx, ix⟩ ⟨3, ny, ty, nmy, iy⟩, 0), d) := by
        rw [hW, if_neg (by rintro (h | h); exact h rfl; exact absurd h (by decide)), if_pos (by decide)]
      exact ⟨⟨eu, cu, ed, cd⟩, ⟨hU, R, hR, fun _ => hD⟩, rfl, wkE_refl _, wkE_refl _, wkE_refl _, trivial⟩
    · (first | refine wX ?_ | exact wZ)
      refine brd_ne (fun h1 => ?_) (fun h1 => ?_)
      · (first | refine wX ?_ | exact wZ)
        -- no order
        obtain rfl : W = ((0, 3), d) := by rw [hW, if_pos (by first | exact .inl h1 | exact .inr (by decide))]
        exact ⟨⟨eu, cu, ed, cd⟩, ⟨hU, R, hR, fun h => by cases h⟩, rfl, wkE_refl _, wkE_refl _, wkE_refl _, trivial⟩
      obtain rfl : ky = _ := h1.symm
      (first | refine wX ?_ | exact wZ)
      refine DrawN.planQ [0, 2, 5, 7] [1, 3, 6, 8, 4, 9] [(10, 0), (11, 0), (12, 1), (13, 1)] (by decide +kernel) ?_
      ((conv => whnf); (repeat ((first | refine BoxN.own ?_ | refine VrN.norm (wrap_i64 (by omega)) ?_ | refine VrN.keep ?_ | refine DrawN.calm (by decide +kernel) ?_ | refine Nd.mk (by decide +kernel) ?_ | refine Nd.mk (by omega) ?_ | (refine Nd.mk ?_ ?_; focus ((repeat' (first | exact trivial | exact wkE_refl _ | refine And.intro ?_ ?_)); done)) | refine RdN.intro _ rfl (by rfl) ?_); (conv => whnf))))
      refine callQ (cmpInt_c nx ny _) ?_
      ((conv => whnf); (repeat ((first | refine BoxN.own ?_ | refine VrN.norm (wrap_i64 (by omega)) ?_ | refine VrN.keep ?_ | refine DrawN.calm (by decide +kernel) ?_ | refine Nd.mk (by decide +kernel) ?_ | refine Nd.mk (by omega) ?_ | (refine Nd.mk ?_ ?_; focus ((repeat' (first | exact trivial | exact wkE_refl _ | refine And.intro ?_ ?_)); done)) | refine RdN.intro _ rfl (by rfl) ?_); (conv => whnf))))
      refine callQ (cmpTxt_c tx ty _) ?_
      ((conv => whnf); (repeat ((first | refine BoxN.own ?_ | refine VrN.norm (wrap_i64 (by omega)) ?_ | refine VrN.keep ?_ | refine DrawN.calm (by decide +kernel) ?_ | refine Nd.mk (by decide +kernel) ?_ | refine Nd.mk (by omega) ?_ | (refine Nd.mk ?_ ?_; focus ((repeat' (first | exact trivial | exact wkE_refl _ | refine And.intro ?_ ?_)); done)) | refine RdN.intro _ rfl (by rfl) ?_); (conv => whnf))))
      refine RwN.known [.int .i64 (sgn nx ny), .int .i64 (tcmp tx ty)] rfl fun rb => ?_
      ((conv => whnf); (repeat ((first | refine BoxN.own ?_ | refine VrN.norm (wrap_i64 (by omega)) ?_ | refine VrN.keep ?_ | refine DrawN.calm (by decide +kernel) ?_ | refine Nd.mk (by decide +kernel) ?_ | refine Nd.mk (by omega) ?_ | (refine Nd.mk ?_ ?_; focus ((repeat' (first | exact trivial | exact wkE_refl _ | refine And.intro ?_ ?_)); done)) | refine RdN.intro _ rfl (by rfl) ?_); (conv => whnf))))
      refine call1 (Or_c (some ⟨rb, 0, none⟩) (sgn nx ny) (tcmp tx ty) rfl _ (fun w hw => hw.2.2.2.2.1)) ?_
      ((conv => whnf); (repeat ((first | refine BoxN.own ?_ | refine VrN.norm (wrap_i64 (by omega)) ?_ | refine VrN.keep ?_ | refine DrawN.calm (by decide +kernel) ?_ | refine Nd.mk (by decide +kernel) ?_ | refine Nd.mk (by omega) ?_ | (refine Nd.mk ?_ ?_; focus ((repeat' (first | exact trivial | exact wkE_refl _ | refine And.intro ?_ ?_)); done)) | refine RdN.intro _ rfl (by rfl) ?_); (conv => whnf))))
      obtain rfl : W = ((leafC ⟨4, nx, tx, nmx, ix⟩ ⟨4, ny, ty, nmy, iy⟩, 0), d) := by
        rw [hW, if_neg (by rintro (h | h); exact h rfl; exact absurd h (by decide)), if_pos (by decide)]
      exact ⟨⟨eu, cu, ed, cd⟩, ⟨hU, R, hR, fun _ => hD⟩, rfl, wkE_refl _, wkE_refl _, wkE_refl _, trivial⟩
    · (first | refine wX ?_ | exact wZ)
      refine brd_ne (fun h1 => ?_) (fun h1 => ?_)
      · (first | refine wX ?_ | exact wZ)
        -- no order
        obtain rfl : W = ((0, 3), d) := by rw [hW, if_pos (by first | exact .inl h1 | exact .inr (by decide))]
        exact ⟨⟨eu, cu, ed, cd⟩, ⟨hU, R, hR, fun h => by cases h⟩, rfl, wkE_refl _, wkE_refl _, wkE_refl _, trivial⟩
      obtain rfl : ky = _ := h1.symm
      (first | refine wX ?_ | exact wZ)
      refine DrawN.planQ [0, 2, 5, 7] [1, 3, 6, 8, 4, 9] [(10, 0), (11, 0), (12, 1), (13, 1)] (by decide +kernel) ?_
      ((conv => whnf); (repeat ((first | refine BoxN.own ?_ | refine VrN.norm (wrap_i64 (by omega)) ?_ | refine VrN.keep ?_ | refine DrawN.calm (by decide +kernel) ?_ | refine Nd.mk (by decide +kernel) ?_ | refine Nd.mk (by omega) ?_ | (refine Nd.mk ?_ ?_; focus ((repeat' (first | exact trivial | exact wkE_refl _ | refine And.intro ?_ ?_)); done)) | refine RdN.intro _ rfl (by rfl) ?_); (conv => whnf))))
      refine callQ (cmpInt_c nx ny _) ?_
      ((conv => whnf); (repeat ((first | refine BoxN.own ?_ | refine VrN.norm (wrap_i64 (by omega)) ?_ | refine VrN.keep ?_ | refine DrawN.calm (by decide +kernel) ?_ | refine Nd.mk (by decide +kernel) ?_ | refine Nd.mk (by omega) ?_ | (refine Nd.mk ?_ ?_; focus ((repeat' (first | exact trivial | exact wkE_refl _ | refine And.intro ?_ ?_)); done)) | refine RdN.intro _ rfl (by rfl) ?_); (conv => whnf))))
      refine callQ (cmpTxt_c tx ty _) ?_
      ((conv => whnf); (repeat ((first | refine BoxN.own ?_ | refine VrN.norm (wrap_i64 (by omega)) ?_ | refine VrN.keep ?_ | refine DrawN.calm (by decide +kernel) ?_ | refine Nd.mk (by decide +kernel) ?_ | refine Nd.mk (by omega) ?_ | (refine Nd.mk ?_ ?_; focus ((repeat' (first | exact trivial | exact wkE_refl _ | refine And.intro ?_ ?_)); done)) | refine RdN.intro _ rfl (by rfl) ?_); (conv => whnf))))
      refine RwN.known [.int .i64 (sgn nx ny), .int .i64 (tcmp tx ty)] rfl fun rb => ?_
      ((conv => whnf); (repeat ((first | refine BoxN.own ?_ | refine VrN.norm (wrap_i64 (by omega)) ?_ | refine VrN.keep ?_ | refine DrawN.calm (by decide +kernel) ?_ | refine Nd.mk (by decide +kernel) ?_ | refine Nd.mk (by omega) ?_ | (refine Nd.mk ?_ ?_; focus ((repeat' (first | exact trivial | exact wkE_refl _ | refine And.intro ?_ ?_)); done)) | refine RdN.intro _ rfl (by rfl) ?_); (conv => whnf))))
      refine call1 (Or_c (some ⟨rb, 0, none⟩) (sgn nx ny) (tcmp tx ty) rfl _ (fun w hw => hw.2.2.2.2.1)) ?_
      ((conv => whnf); (repeat ((first | refine BoxN.own ?_ | refine VrN.norm (wrap_i64 (by omega)) ?_ | refine VrN.keep ?_ | refine DrawN.calm (by decide +kernel) ?_ | refine Nd.mk (by decide +kernel) ?_ | refine Nd.mk (by omega) ?_ | (refine Nd.mk ?_ ?_; focus ((repeat' (first | exact trivial | exact wkE_refl _ | refine And.intro ?_ ?_)); done)) | refine RdN.intro _ rfl (by rfl) ?_); (conv => whnf))))
      obtain rfl : W = ((leafC ⟨5, nx, tx, nmx, ix⟩ ⟨5, ny, ty, nmy, iy⟩, 0), d) := by
        rw [hW, if_neg (by rintro (h | h); exact h rfl; exact absurd h (by decide)), if_pos (by decide)]
      exact ⟨⟨eu, cu, ed, cd⟩, ⟨hU, R, hR, fun _ => hD⟩, rfl, wkE_refl _, wkE_refl _, wkE_refl _, trivial⟩
    · (first | refine wX ?_ | exact wZ)
      refine brd_ne (fun h1 => ?_) (fun h1 => ?_)
      · (first | refine wX ?_ | exact wZ)
        -- no order
        obtain rfl : W = ((0, 3), d) := by rw [hW, if_pos (by first | exact .inl h1 | exact .inr (by decide))]
        exact ⟨⟨eu, cu, ed, cd⟩, ⟨hU, R, hR, fun h => by cases h⟩, rfl, wkE_refl _, wkE_refl _, wkE_refl _, trivial⟩
      obtain rfl : ky = 6 := h1.symm
      (first | refine wX ?_ | exact wZ)
      -- the map and the pair; ub: the map's cell, mu: the map, hw.2.2.1.2.2.1: the fact
      refine LdN.one (a := some ⟨ub, 0, none⟩) (q := 0) (.map (some mu)) rfl (fun w hw => hw.2.2.1.2.2.1) rfl ?_
      (first | refine wX ?_ | exact wZ)
      refine LdN.agg (a := some ⟨pb, 0, none⟩) (q := 0) [.int .i64 (x1 : Int), .int .i64 (y1 : Int)] rfl (fun w hw => hw.2.2.2.1) rfl (fun k hk => by rw [Nat.zero_add]) ?_
      (first | refine wX ?_ | exact wZ)
      refine ReadW.keyMap (et := 4) (p := ((x1 : Int), (y1 : Int))) (undR u) rfl mapPB pairK rfl rfl rfl rfl (fun w hw => hw.1) hU ?_
      have hgu := und_get u ((x1 : Int), (y1 : Int))
      unfold lk at hgu
      rw [hgu]
      (first | refine wX ?_ | exact wZ)
      refine brd_dec (fun hmu => ?_) (fun hmu => ?_)
      · obtain rfl : W = ((0, 10), d) := by
          rw [hW, if_neg (by rintro (h | h); exact h rfl; exact absurd h (by decide)), if_neg (by decide), if_pos hmu]
        (first | refine wX ?_ | exact wZ)
        exact ⟨⟨eu, cu, ed, cd⟩, ⟨hU, R, hR, fun h => by cases h⟩, rfl, wkE_refl _, wkE_refl _, wkE_refl _, trivial⟩
      (first | refine wX ?_ | exact wZ)
      -- the map and the pair; db: the map's cell, md: the map, hw.2.2.1.2.2.2.1: the fact
      refine LdN.one (a := some ⟨db, 0, none⟩) (q := 0) (.map (some md)) rfl (fun w hw => hw.2.2.1.2.2.2.1) rfl ?_
      (first | refine wX ?_ | exact wZ)
      refine LdN.agg (a := some ⟨pb, 0, none⟩) (q := 0) [.int .i64 (x1 : Int), .int .i64 (y1 : Int)] rfl (fun w hw => hw.2.2.2.1) rfl (fun k hk => by rw [Nat.zero_add]) ?_
      (first | refine wX ?_ | exact wZ)
      refine ReadW.keyMap (et := 4) (p := ((x1 : Int), (y1 : Int))) R rfl mapPB pairK rfl rfl rfl rfl (fun w hw => hw.2.1) hR ?_
      have hgd := hD ((x1 : Int), (y1 : Int))
      unfold lk at hgd
      rw [hgd]
      (first | refine wX ?_ | exact wZ)
      refine brd_dec (fun hmd => ?_) (fun hmd => ?_)
      · obtain rfl : W = ((0, 0), d) := by
          rw [hW, if_neg (by rintro (h | h); exact h rfl; exact absurd h (by decide)), if_neg (by decide), if_neg hmu, if_pos hmd]
        (first | refine wX ?_ | exact wZ)
        exact ⟨⟨eu, cu, ed, cd⟩, ⟨hU, R, hR, fun _ => hD⟩, rfl, wkE_refl _, wkE_refl _, wkE_refl _, trivial⟩
      rw [if_neg (by rintro (h | h); exact h rfl; exact absurd h (by decide)), if_neg (by decide), if_neg hmu, if_neg hmd] at hW
      (first | refine wX ?_ | exact wZ)
      -- the map and the pair; ub: the map's cell, mu: the map, hw.2.2.1.2.2.1: the fact
      refine LdN.one (a := some ⟨ub, 0, none⟩) (q := 0) (.map (some mu)) rfl (fun w hw => hw.2.2.1.2.2.1) rfl ?_
      (first | refine wX ?_ | exact wZ)
      refine LdN.agg (a := some ⟨pb, 0, none⟩) (q := 0) [.int .i64 (x1 : Int), .int .i64 (y1 : Int)] rfl (fun w hw => hw.2.2.2.1) rfl (fun k hk => by rw [Nat.zero_add]) ?_
      (first | refine wX ?_ | exact wZ)
      refine EffW.setMap (et := 4) (p := ((x1 : Int), (y1 : Int))) 0 (undR u) rfl mapPB pairK rfl rfl rfl rfl hU fun eu2 cu2 hU2 => ?_
      rw [und_put hmu] at hU2
      (first | refine wX ?_ | exact wZ)
      -- the map and the pair; ub: the map's cell, mu: the map, hw.2.2.1.2.2.1: the fact
      refine LdN.one (a := some ⟨ub, 0, none⟩) (q := 0) (.map (some mu)) rfl (fun w hw => hw.2.2.1.2.2.1) rfl ?_
      (first | refine wX ?_ | exact wZ)
      refine LdN.agg (a := some ⟨pb, 0, none⟩) (q := 0) [.int .i64 (x1 : Int), .int .i64 (y1 : Int)] rfl (fun w hw => hw.2.2.2.1) rfl (fun k hk => by rw [Nat.zero_add]) ?_
      (first | refine wX ?_ | exact wZ)
      refine ⟨rfl, rfl, ?_⟩
      (first | refine wX ?_ | exact wZ)
      obtain ⟨P, hP⟩ : ∃ P : CellP, P = ⟨⟨6, nx, tx, nmx, ix⟩, nax, ncx, iax, icx⟩ := ⟨_, rfl⟩
      obtain ⟨Q, hQ⟩ : ∃ Q : CellP, Q = ⟨⟨6, ny, ty, nmy, iy⟩, nay, ncy, iay, icy⟩ := ⟨_, rfl⟩
      obtain ⟨m, hm0⟩ : ∃ m, m = min ix.length iy.length := ⟨_, rfl⟩
      have hzl : (ix.zip iy).length = m := by rw [List.length_zip, hm0]
      have e1 : (⟨⟨6, nx, tx, nmx, ix⟩, nax, ncx, iax, icx⟩ : CellP).c.items.length = ix.length := rfl
      have e2 : (⟨⟨6, ny, ty, nmy, iy⟩, nay, ncy, iay, icy⟩ : CellP).c.items.length = iy.length := rfl
      have hixl : ix.length ≤ 2000 := hxs.2
      have hiyl : iy.length ≤ 2000 := hys.2
      have hlt := left_cons hp hmu
      have hds := (und_seek hmu).1
      have hde := (und_seek hmu).2
      obtain ⟨WL, hWL⟩ : ∃ WL, WL = cmpL (cmpF 3 10 (l.map (·.c)) n (((x1 : Int), (y1 : Int)) :: u)) d (ix.zip iy) := ⟨_, rfl⟩
      rw [← hWL] at hW
      refine LoopN.intro (Nat × MSt × List (Int × Int)) (fun ⟨k, st, d3⟩ => k ≤ m ∧ CmOk (((x1 : Int), (y1 : Int)) :: u) d3 True st ∧ cmpL (cmpF 3 10 (l.map (·.c)) n (((x1 : Int), (y1 : Int)) :: u)) d3 ((ix.zip iy).drop k) = WL)
        (fun ⟨k, _, _⟩ => mkS Tryz.f62.ntmps 0 [(4, .c (.v (.pointer (some ⟨db, 0, none⟩)))), (5, .c (.v (.pointer (some ⟨fb, 0, none⟩)))), (10, .c (.lp 3 0)), (11, .c (.lp 4 0)), (12, .c (.v (.pointer (some ⟨pb, 0, none⟩)))), (88, .c (.v (.int .i64 (m : Int)))), (89, .c (.v (.int .i64 (k : Int))))])
        (fun ⟨_, st, _⟩ => [.mp mu st.eu st.cu, .mp md st.ed st.cd, .fact (cmF a ca l gb ub db fb mu md), .blk 42 (vs (cellC ⟨⟨6, nx, tx, nmx, ix⟩, nax, ncx, iax, icx⟩)), .blk 42 (vs (cellC ⟨⟨6, ny, ty, nmy, iy⟩, nay, ncy, iay, icy⟩)), .app 95 2 [.int .i64 (x1 : Int), .int .i64 (y1 : Int)] (some ⟨pb, 0, none⟩) 1 1]) (fun ⟨k, _, _⟩ => m - k) [] rfl (fun ⟨_, _, _⟩ => rfl) (fun ⟨_, _, _⟩ => rfl) (fun ⟨_, _, _⟩ _ => okHB_eq rfl) ?_ ?_
      · refine ⟨(0, ⟨eu2, cu2, ed, cd⟩, d), ⟨Nat.zero_le _, ⟨hU2, R, hR, fun _ => hD⟩, hWL.symm⟩, ?_, wkE_refl _, wkE_refl _, wkE_refl _, wkE_refl _, wkE_refl _, wkE_refl _, trivial⟩
        (repeat' (first | exact trivial | refine And.intro (by with_reducible rfl) ?_ | (with_reducible exact wkC_refl _) | (with_reducible exact wkCs_refl _) | refine And.intro ?_ ?_))
        all_goals first | rfl | exact av_int (by rw [hm0]; unfold Go.AX.minI; split <;> omega)
      rintro ⟨k, ⟨eu3, cu3, ed3, cd3⟩, d3⟩ ⟨hk, ⟨hU3, R3, hR3, hD3⟩, hwk⟩
      have hD3 := hD3 trivial
      simp only at hU3 hR3
      (first | refine wX ?_ | exact wZ)
      refine brd_dec (fun h6 => ?_) (fun h6 => ?_)
      · obtain ⟨xi, hxi⟩ : ∃ z, ix[k]? = some z := ⟨_, List.getElem?_eq_getElem (by omega)⟩
        obtain ⟨yi, hyi⟩ : ∃ z, iy[k]? = some z := ⟨_, List.getElem?_eq_getElem (by omega)⟩
        have hxa : iax.isSome = true := by
          cases hq : iax with
          | none =>
              have hxe : ix = [] := hxo.ia hq
              rw [hxe] at hxi; cases hxi
          | some b => rfl
        have hya : iay.isSome = true := by
          cases hq : iay with
          | none =>
              have hye : iy = [] := hyo.ia hq
              rw [hye] at hyi; cases hyi
          | some b => rfl
        have hz : (ix.zip iy)[k]? = some (xi, yi) := List.getElem?_zip_eq_some.2 ⟨hxi, hyi⟩
        have hnx : nextP (l.map (·.c)) ((x1 : Int), (y1 : Int)) = ix.zip iy := by unfold nextP; rw [at_map hx, at_map hy]
        have hin : InP (l.map (·.c)) (xi, yi) := next_in hg hp (by rw [hnx]; exact List.mem_of_getElem? hz)
        ((conv => whnf); (repeat ((first | refine VrN.keep ?_ | refine BoxN.own ?_ | refine RwN.own ?_); (conv => whnf))))
        refine DrawN.plan [1, 3, 6, 8] [(0, 1), (2, 1), (4, 1), (5, 1), (7, 1), (9, 1), (10, 1)] [(11, 0), (12, 0), (13, 1), (14, 1), (15, 1), (16, 1)] (by decide +kernel) ?_
        (first | refine wX ?_ | exact wZ)
        refine LdN.one (a := some ⟨fb, 0, none⟩) (q := 0) (.func (.func 62) #[] #[.pointer (some ⟨gb, 0, none⟩), .pointer (some ⟨ub, 0, none⟩), .pointer (some ⟨db, 0, none⟩), .pointer (some ⟨fb, 0, none⟩)]) rfl (fun w hw => hw.2.2.1.2.2.2.2) rfl ?_
        (first | refine wX ?_ | exact wZ)
        refine Nd.mk ⟨hxa, by omega, by omega⟩ ?_
        (first | refine wX ?_ | exact wZ)
        refine LdN.one (.int .i64 xi) rfl (fun w hw => (hw.2.2.1.1.2 _ hxm).2) (by rw [Int.toNat_natCast]; show (iC ix)[k * 1]? = _; rw [Nat.mul_one]; exact iC_get hxi) ?_
        (first | refine wX ?_ | exact wZ)
        refine Nd.mk ⟨hya, by omega, by omega⟩ ?_
        (first | refine wX ?_ | exact wZ)
        refine LdN.one (.int .i64 yi) rfl (fun w hw => (hw.2.2.1.1.2 _ hym).2) (by rw [Int.toNat_natCast]; show (iC iy)[k * 1]? = _; rw [Nat.mul_one]; exact iC_get hyi) ?_
        (first | refine wX ?_ | exact wZ)
        refine SpecH.args (args' := cmA xi yi gb ub db fb) (by simp [cmA, pvs, opvs, opv, nth]; try rfl) ?_
        refine callG (ih (((x1 : Int), (y1 : Int)) :: u) d3 ⟨eu3, cu3, ed3, cd3⟩ (xi, yi) hin (by omega) ⟨hU3, R3, hR3, fun _ => hD3⟩) [0, 1, 2] rfl ⟨rfl, rfl, rfl, trivial⟩ rfl fun ⟨eu4, cu4, ed4, cd4⟩ hR4 => ?_
        obtain ⟨⟨⟨r1, r2⟩, d4⟩, hb⟩ : ∃ z, cmpF 3 10 (l.map (·.c)) n (((x1 : Int), (y1 : Int)) :: u) d3 (xi, yi) = z := ⟨_, rfl⟩
        rw [cmpL_at hz, hb] at hwk
        rw [hb] at hR4 ⊢
        obtain ⟨hU4, R4, hR4, hD4⟩ := hR4
        simp only at hwk hU4 hR4 hD4 ⊢
        (first | refine wX ?_ | exact wZ)
        refine brd_ne (fun hr1 => ?_) (fun hr1 => ?_)
        · have hne : ¬ (r1 = 0 ∧ r2 = 0) := fun h => hr1 h.1
          -- the answer is handed on
          rw [if_neg hne] at hwk
          have hWe : W = ((r1, r2), d4) := by
            rw [hW, ← hwk]
            simp only
            rw [if_neg hne]
          clear hW
          subst hWe
          (first | refine wX ?_ | exact wZ)
          refine QuitW.del (et := 4) (p := ((x1 : Int), (y1 : Int))) 0 (undR (((x1 : Int), (y1 : Int)) :: u)) rfl mapPB pairK rfl hU4 hds fun es5 hes5 => ?_
          rw [hde] at hes5
          (first | refine wX ?_ | exact wZ)
          exact ⟨⟨es5, cu4, ed4, cd4⟩, ⟨hes5, R4, hR4, fun h => absurd ⟨congrArg Prod.fst h, congrArg Prod.snd h⟩ hne⟩, rfl, wkE_refl _, wkE_refl _, wkE_refl _, trivial⟩
        (first | refine wX ?_ | exact wZ)
        refine brd_ne (fun hr2 => ?_) (fun hr2 => ?_)
        · have hne : ¬ (r1 = 0 ∧ r2 = 0) := fun h => hr2 h.2
          -- the answer is handed on
          rw [if_neg hne] at hwk
          have hWe : W = ((r1, r2), d4) := by
            rw [hW, ← hwk]
            simp only
            rw [if_neg hne]
          clear hW
          subst hWe
          (first | refine wX ?_ | exact wZ)
          refine QuitW.del (et := 4) (p := ((x1 : Int), (y1 : Int))) 0 (undR (((x1 : Int), (y1 : Int)) :: u)) rfl mapPB pairK rfl hU4 hds fun es5 hes5 => ?_
          rw [hde] at hes5
          (first | refine wX ?_ | exact wZ)
          exact ⟨⟨es5, cu4, ed4, cd4⟩, ⟨hes5, R4, hR4, fun h => absurd ⟨congrArg Prod.fst h, congrArg Prod.snd h⟩ hne⟩, rfl, wkE_refl _, wkE_refl _, wkE_refl _, trivial⟩
        rw [if_pos ⟨hr1, hr2⟩] at hwk
        (first | refine wX ?_ | exact wZ)
        refine ⟨(k + 1, ⟨eu4, cu4, ed4, cd4⟩, d4), ⟨by omega, ⟨hU4, R4, hR4, fun _ => hD4 (by rw [hr1, hr2])⟩, hwk⟩, by show m - (k + 1) < m - k; omega, ?_, wkE_refl _, wkE_refl _, wkE_refl _, wkE_refl _, wkE_refl _, wkE_refl _, trivial⟩
        (repeat' (first | exact trivial | refine And.intro (by with_reducible rfl) ?_ | (with_reducible exact wkC_refl _) | (with_reducible exact wkCs_refl _) | refine And.intro ?_ ?_))
        all_goals first | rfl | exact av_int (by rw [wrap_i64 (by omega)]; omega)
      · have hkm : k = m := by omega
        subst hkm
        rw [List.drop_of_length_le (by omega)] at hwk
        have hwk2 : ((0, 0), d3) = WL := hwk
        rw [← hwk2] at hW
        have hW2 : W = ((sgn (ix.length : Int) (iy.length : Int), 0), if sgn (ix.length : Int) (iy.length : Int) = 0 then ((x1 : Int), (y1 : Int)) :: d3 else d3) := by rw [hW]; simp
        clear hW
        (first | refine wX ?_ | exact wZ)
        refine call1 (cmpInt_c (ix.length : Int) (iy.length : Int) _) ?_
        generalize sgn (ix.length : Int) (iy.length : Int) = q at *
        by_cases hq : q = 0
        · subst hq
          rw [if_pos rfl] at hW2
          subst hW2
          (first | refine wX ?_ | exact wZ)
          -- the map and the pair; db: the map's cell, md: the map, hw.2.2.1.2.2.2.1: the fact
          refine LdN.one (a := some ⟨db, 0, none⟩) (q := 0) (.map (some md)) rfl (fun w hw => hw.2.2.1.2.2.2.1) rfl ?_
          (first | refine wX ?_ | exact wZ)
          refine LdN.agg (a := some ⟨pb, 0, none⟩) (q := 0) [.int .i64 (x1 : Int), .int .i64 (y1 : Int)] rfl (fun w hw => hw.2.2.2.1) rfl (fun k hk => by rw [Nat.zero_add]) ?_
          (first | refine wX ?_ | exact wZ)
          refine EffW.setMap (et := 4) (p := ((x1 : Int), (y1 : Int))) 1 R3 rfl mapPB pairK rfl rfl rfl rfl hR3 fun ed5 cd5 hR5 => ?_
          (first | refine wX ?_ | exact wZ)
          refine QuitW.del (et := 4) (p := ((x1 : Int), (y1 : Int))) 0 (undR (((x1 : Int), (y1 : Int)) :: u)) rfl mapPB pairK rfl hU3 hds fun es5 hes5 => ?_
          rw [hde] at hes5
          (first | refine wX ?_ | exact wZ)
          exact ⟨⟨es5, cu3, ed5, cd5⟩, ⟨hes5, _, hR5, fun _ => hD3.put _⟩, rfl, wkE_refl _, wkE_refl _, wkE_refl _, trivial⟩
        · rw [if_neg hq] at hW2
          subst hW2
          (first | refine wX ?_ | exact wZ)
          -- the map and the pair; db: the map's cell, md: the map, hw.2.2.1.2.2.2.1: the fact
          refine LdN.one (a := some ⟨db, 0, none⟩) (q := 0) (.map (some md)) rfl (fun w hw => hw.2.2.1.2.2.2.1) rfl ?_
          (first | refine wX ?_ | exact wZ)
          refine LdN.agg (a := some ⟨pb, 0, none⟩) (q := 0) [.int .i64 (x1 : Int), .int .i64 (y1 : Int)] rfl (fun w hw => hw.2.2.2.1) rfl (fun k hk => by rw [Nat.zero_add]) ?_
          (first | refine wX ?_ | exact wZ)
          refine EffW.setMap (et := 4) (p := ((x1 : Int), (y1 : Int))) 1 R3 rfl mapPB pairK rfl rfl rfl rfl hR3 fun ed5 cd5 hR5 => ?_
          (first | refine wX ?_ | exact wZ)
          refine QuitW.del (et := 4) (p := ((x1 : Int), (y1 : Int))) 0 (undR (((x1 : Int), (y1 : Int)) :: u)) rfl mapPB pairK rfl hU3 hds fun es5 hes5 => ?_
          rw [hde] at hes5
          (first | refine wX ?_ | exact wZ)
          exact ⟨⟨es5, cu3, ed5, cd5⟩, ⟨hes5, _, hR5, fun h => absurd (congrArg Prod.fst h) hq⟩, rfl, wkE_refl _, wkE_refl _, wkE_refl _, trivial⟩
    · (first | refine wX ?_ | exact wZ)
      refine brd_ne (fun h1 => ?_) (fun h1 => ?_)
      · (first | refine wX ?_ | exact wZ)
        -- no order
        obtain rfl : W = ((0, 3), d) := by rw [hW, if_pos (by first | exact .inl h1 | exact .inr (by decide))]
        exact ⟨⟨eu, cu, ed, cd⟩, ⟨hU, R, hR, fun h => by cases h⟩, rfl, wkE_refl _, wkE_refl _, wkE_refl _, trivial⟩
      · obtain rfl : ky = _ := h1.symm
        (first | refine wX ?_ | exact wZ)
        -- no order
        obtain rfl : W = ((0, 3), d) := by rw [hW, if_pos (by first | exact .inl h1 | exact .inr (by decide))]
        exact ⟨⟨eu, cu, ed, cd⟩, ⟨hU, R, hR, fun h => by cases h⟩, rfl, wkE_refl _, wkE_refl _, wkE_refl _, trivial⟩
    · (first | refine wX ?_ | exact wZ)
      refine brd_ne (fun h1 => ?_) (fun h1 => ?_)
      · (first | refine wX ?_ | exact wZ)
        -- no order
        obtain rfl : W = ((0, 3), d) := by rw [hW, if_pos (by first | exact .inl h1 | exact .inr (by decide))]
        exact ⟨⟨eu, cu, ed, cd⟩, ⟨hU, R, hR, fun h => by cases h⟩, rfl, wkE_refl _, wkE_refl _, wkE_refl _, trivial⟩
      · obtain rfl : ky = _ := h1.symm
        (first | refine wX ?_ | exact wZ)
        -- no order
        obtain rfl : W = ((0, 3), d) := by rw [hW, if_pos (by first | exact .inl h1 | exact .inr (by decide))]
        exact ⟨⟨eu, cu, ed, cd⟩, ⟨hU, R, hR, fun h => by cases h⟩, rfl, wkE_refl _, wkE_refl _, wkE_refl _, trivial⟩
end Go.Proofs.YtahjbnfbilkbcaaGreatDoor

/-
  Contract: Compare (program).
-/
namespace Go.Core
/-- What Compare finds. -/
def cmpB (g : List Cell) (p : Int × Int) : Int × Int := (cmpF 3 10 g (g.length * g.length + 1) [] [] p).1
theorem valid_kind {g : List Cell} (h : ValidP g) : KindOk g := fun c hc => cellD_kind (h.2.1 c hc)
end Go.Core
namespace Go.Proofs.YtahjbnfbilkbcaaGreatDoor
open Go.AX Go.RowKit Go.Core
set_option maxRecDepth 20000

/-- The values that Compare tells. -/
def cmpV (e : Bool) (g : List Cell) (u v : Int) : Value := .tuple #[.int .i64 (if e then (cmpB g (u, v)).1 else 0), .int .i64 (if e then (cmpB g (u, v)).2 else 1)]
set_option maxHeartbeats 4000000 in
theorem Compare_c {a : Option Addr} (ca : Nat) {l : List CellP} (ha : a = none → l = []) (hs : Small l) (hok : ∀ p ∈ l, CellOk p) (u v : Int) :
    ∀ H, (∀ w, Facts H w → GrF a l w) → ∃ e : Bool, (e = true ↔ AskP (l.map (·.c)) [u, v]) ∧ SpecH Tryz.prog 31 (pvs [.slice a l.length ca, .int .i64 u, .int .i64 v]) H (Ret (cmpV e (l.map (·.c)) u v) H) := by
  intro H hH
  obtain ⟨e, he⟩ := ask_bool (l.map (·.c)) [u, v]
  refine ⟨e, he, ?_⟩
  refine factC hm Tryz.func31 (by kernel_rfl) rfl rfl ?_ H hH
  (conv => whnf)
  refine BoxN.known [.slice a l.length ca] rfl fun gb => ?_
  ((conv => whnf); (repeat ((first | refine VrN.keep ?_ | refine BoxN.own ?_ | refine RwN.own ?_); (conv => whnf))))
  refine LdN.one (a := some ⟨gb, 0, none⟩) (q := 0) (.slice a l.length ca) rfl (fun w hw => hw.2.1) rfl ?_
  ((conv => whnf); (repeat ((first | refine BoxN.own ?_ | refine VrN.norm (wrap_i64 (by omega)) ?_ | refine VrN.keep ?_ | refine DrawN.calm (by decide +kernel) ?_ | refine Nd.mk (by decide +kernel) ?_ | refine Nd.mk (by omega) ?_ | (refine Nd.mk ?_ ?_; focus ((repeat' (first | exact trivial | exact wkE_refl _ | refine And.intro ?_ ?_)); done)) | refine RdN.intro _ rfl (by rfl) ?_); (conv => whnf))))
  refine RwN.known [.int .i64 u, .int .i64 v] rfl fun rb => ?_
  ((conv => whnf); (repeat ((first | refine BoxN.own ?_ | refine VrN.norm (wrap_i64 (by omega)) ?_ | refine VrN.keep ?_ | refine DrawN.calm (by decide +kernel) ?_ | refine Nd.mk (by decide +kernel) ?_ | refine Nd.mk (by omega) ?_ | (refine Nd.mk ?_ ?_; focus ((repeat' (first | exact trivial | exact wkE_refl _ | refine And.intro ?_ ?_)); done)) | refine RdN.intro _ rfl (by rfl) ?_); (conv => whnf))))
  obtain ⟨t, ht1, ht2⟩ := asked_c a ca l ha hs hok (some ⟨rb, 0, none⟩) 2 [u, v] (fun h => by cases h) (by simp) [.fact (GrF a l), .app 22 1 [.slice a l.length ca] (some ⟨gb, 0, none⟩) 1 1, .app 3 1 [.int .i64 u, .int .i64 v] (some ⟨rb, 0, none⟩) 2 2] (fun w hw => ⟨hw.1, hw.2.2.1⟩)
  obtain rfl : t = e := by rw [Bool.eq_iff_iff, ht1, he]
  refine call1 ht2 ?_
  cases t with
  | false =>
    (first | refine wX ?_ | exact wZ)
    rfl
  | true =>
    have hask := he.1 rfl
    have hin := valid_in hask.1
    ((conv => whnf); (repeat ((first | refine RwN.own ?_ | refine VrN.norm (wrap_i64 (by omega)) ?_ | refine VrN.keep ?_ | refine DrawN.calm (by decide +kernel) ?_ | refine Nd.mk (by decide +kernel) ?_ | refine Nd.mk (by omega) ?_ | (refine Nd.mk ?_ ?_; focus ((repeat' (first | exact trivial | exact wkE_refl _ | refine And.intro ?_ ?_)); done)) | refine RdN.intro _ rfl (by rfl) ?_); (conv => whnf))))
    refine EffW.mkMap rfl fun mu => ?_
    ((conv => whnf); (repeat ((first | refine RwN.own ?_ | refine VrN.norm (wrap_i64 (by omega)) ?_ | refine VrN.keep ?_ | refine DrawN.calm (by decide +kernel) ?_ | refine Nd.mk (by decide +kernel) ?_ | refine Nd.mk (by omega) ?_ | (refine Nd.mk ?_ ?_; focus ((repeat' (first | exact trivial | exact wkE_refl _ | refine And.intro ?_ ?_)); done)) | refine RdN.intro _ rfl (by rfl) ?_); (conv => whnf))))
    refine EffW.mkMap rfl fun md => ?_
    ((conv => whnf); (repeat ((first | refine RwN.own ?_ | refine VrN.norm (wrap_i64 (by omega)) ?_ | refine VrN.keep ?_ | refine DrawN.calm (by decide +kernel) ?_ | refine Nd.mk (by decide +kernel) ?_ | refine Nd.mk (by omega) ?_ | (refine Nd.mk ?_ ?_; focus ((repeat' (first | exact trivial | exact wkE_refl _ | refine And.intro ?_ ?_)); done)) | refine RdN.intro _ rfl (by rfl) ?_); (conv => whnf))))
    refine BoxN.known [.map none] rfl fun ub => ?_
    ((conv => whnf); (repeat ((first | refine RwN.own ?_ | refine VrN.norm (wrap_i64 (by omega)) ?_ | refine VrN.keep ?_ | refine DrawN.calm (by decide +kernel) ?_ | refine Nd.mk (by decide +kernel) ?_ | refine Nd.mk (by omega) ?_ | (refine Nd.mk ?_ ?_; focus ((repeat' (first | exact trivial | exact wkE_refl _ | refine And.intro ?_ ?_)); done)) | refine RdN.intro _ rfl (by rfl) ?_); (conv => whnf))))
    refine BoxN.known [.map none] rfl fun db => ?_
    ((conv => whnf); (repeat ((first | refine RwN.own ?_ | refine VrN.norm (wrap_i64 (by omega)) ?_ | refine VrN.keep ?_ | refine DrawN.calm (by decide +kernel) ?_ | refine Nd.mk (by decide +kernel) ?_ | refine Nd.mk (by omega) ?_ | (refine Nd.mk ?_ ?_; focus ((repeat' (first | exact trivial | exact wkE_refl _ | refine And.intro ?_ ?_)); done)) | refine RdN.intro _ rfl (by rfl) ?_); (conv => whnf))))
    refine EffW.appTo (i := 5) (q := 0) (ys := [.map (some mu)]) [.map (some mu)] 1 rfl rfl rfl rfl rfl rfl rfl (Nat.le_of_ble_eq_true rfl) rfl rfl ?_
    ((conv => whnf); (repeat ((first | refine RwN.own ?_ | refine VrN.norm (wrap_i64 (by omega)) ?_ | refine VrN.keep ?_ | refine DrawN.calm (by decide +kernel) ?_ | refine Nd.mk (by decide +kernel) ?_ | refine Nd.mk (by omega) ?_ | (refine Nd.mk ?_ ?_; focus ((repeat' (first | exact trivial | exact wkE_refl _ | refine And.intro ?_ ?_)); done)) | refine RdN.intro _ rfl (by rfl) ?_); (conv => whnf))))
    refine EffW.appTo (i := 6) (q := 0) (ys := [.map (some md)]) [.map (some md)] 1 rfl rfl rfl rfl rfl rfl rfl (Nat.le_of_ble_eq_true rfl) rfl rfl ?_
    ((conv => whnf); (repeat ((first | refine RwN.own ?_ | refine VrN.norm (wrap_i64 (by omega)) ?_ | refine VrN.keep ?_ | refine DrawN.calm (by decide +kernel) ?_ | refine Nd.mk (by decide +kernel) ?_ | refine Nd.mk (by omega) ?_ | (refine Nd.mk ?_ ?_; focus ((repeat' (first | exact trivial | exact wkE_refl _ | refine And.intro ?_ ?_)); done)) | refine RdN.intro _ rfl (by rfl) ?_); (conv => whnf))))
    refine BoxN.known [.nilFunc] rfl fun fb => ?_
    ((conv => whnf); (repeat ((first | refine RwN.own ?_ | refine VrN.norm (wrap_i64 (by omega)) ?_ | refine VrN.keep ?_ | refine DrawN.calm (by decide +kernel) ?_ | refine Nd.mk (by decide +kernel) ?_ | refine Nd.mk (by omega) ?_ | (refine Nd.mk ?_ ?_; focus ((repeat' (first | exact trivial | exact wkE_refl _ | refine And.intro ?_ ?_)); done)) | refine RdN.intro _ rfl (by rfl) ?_); (conv => whnf))))
    refine EffW.appTo (i := 7) (q := 0) (ys := [.func (.func 62) #[] #[.pointer (some ⟨gb, 0, none⟩), .pointer (some ⟨ub, 0, none⟩), .pointer (some ⟨db, 0, none⟩), .pointer (some ⟨fb, 0, none⟩)]]) [.func (.func 62) #[] #[.pointer (some ⟨gb, 0, none⟩), .pointer (some ⟨ub, 0, none⟩), .pointer (some ⟨db, 0, none⟩), .pointer (some ⟨fb, 0, none⟩)]] 1 rfl rfl rfl (by simp [opv, nth, plainEv, avCells, vs]; try rfl) rfl rfl rfl (Nat.le_of_ble_eq_true rfl) rfl rfl ?_
    ((conv => whnf); (repeat ((first | refine RwN.own ?_ | refine VrN.norm (wrap_i64 (by omega)) ?_ | refine VrN.keep ?_ | refine DrawN.calm (by decide +kernel) ?_ | refine Nd.mk (by decide +kernel) ?_ | refine Nd.mk (by omega) ?_ | (refine Nd.mk ?_ ?_; focus ((repeat' (first | exact trivial | exact wkE_refl _ | refine And.intro ?_ ?_)); done)) | refine RdN.intro _ rfl (by rfl) ?_); (conv => whnf))))
    refine LdN.one (a := some ⟨fb, 0, none⟩) (q := 0) (.func (.func 62) #[] #[.pointer (some ⟨gb, 0, none⟩), .pointer (some ⟨ub, 0, none⟩), .pointer (some ⟨db, 0, none⟩), .pointer (some ⟨fb, 0, none⟩)]) rfl (fun w hw => hw.2.2.2.2.2.2.2.1) rfl ?_
    ((conv => whnf); (repeat ((first | refine RwN.own ?_ | refine VrN.norm (wrap_i64 (by omega)) ?_ | refine VrN.keep ?_ | refine DrawN.calm (by decide +kernel) ?_ | refine Nd.mk (by decide +kernel) ?_ | refine Nd.mk (by omega) ?_ | (refine Nd.mk ?_ ?_; focus ((repeat' (first | exact trivial | exact wkE_refl _ | refine And.intro ?_ ?_)); done)) | refine RdN.intro _ rfl (by rfl) ?_); (conv => whnf))))
    refine SpecH.args (args' := cmA u v gb ub db fb) (by simp [cmA, pvs, opvs, opv, nth]; try rfl) ?_
    refine SpecH.turn [.fact (GrF a l), .fact (cmF a ca l gb ub db fb mu md), .dead, .mp mu #[] 0, .mp md #[] 0, .dead, .dead, .dead] ⟨.inr (.inl rfl), .inr (.inr ⟨_, rfl, fun w hw => ⟨hw.1, hw.2.1, hw.2.2.2.1, hw.2.2.2.2.1, hw.2.2.2.2.2.1⟩⟩), .inl rfl, .inr (.inl rfl), .inr (.inl rfl), .inl rfl, .inl rfl, .inl rfl, trivial⟩ ?_
    have hu := hask.2 u (by simp)
    have hv := hask.2 v (by simp)
    refine callG (compare_c a ca l ha hs hok hin (valid_kind hask.1) gb ub db fb mu md ((l.map (·.c)).length * (l.map (·.c)).length + 1) [] [] ⟨#[], 0, #[], 0⟩ (u, v) ⟨hu, hv⟩ (left_nil _) ⟨rfl, [], rfl, fun _ p => rfl⟩) [3, 4, 1] rfl ⟨rfl, rfl, rfl, trivial⟩ rfl fun ⟨eu4, cu4, ed4, cd4⟩ _ => ?_
    (first | refine wX ?_ | exact wZ)
    rfl
end Go.Proofs.YtahjbnfbilkbcaaGreatDoor

/-
  Contract: the document's compare.
-/
namespace Go.Core
theorem neat_cell {n : Nat} {c : Cell} (h : cellD n c = true) : NeatC c := by
  unfold cellD at h
  have hk := cellD_kind (n := n) (c := c) (by unfold cellD; exact h)
  have : c.kind = 0 ∨ c.kind = 1 ∨ c.kind = 2 ∨ c.kind = 3 ∨ c.kind = 4 ∨ c.kind = 5 ∨ c.kind = 6 ∨ c.kind = 7 ∨ c.kind = 8 := by omega
  rcases this with e | e | e | e | e | e | e | e | e <;> rw [e] at h <;> refine ⟨fun k => ?_, fun k => ?_, fun k => ?_, fun k => ?_⟩ <;> first | omega | (simp at h; simp_all)
theorem neat_valid {g : List Cell} (h : ValidP g) : Neat g := fun a => by
  rcases at_cases g a with h1 | h1
  · exact neat_cell (h.2.1 _ h1)
  · rw [h1]
    exact ⟨fun _ => rfl, fun _ => rfl, fun _ => ⟨rfl, rfl⟩, fun _ => ⟨rfl, rfl, rfl⟩⟩
theorem less_tcmp : ∀ a b : List UInt8, (if Op.bytesLess a b = true then (-1 : Int) else if (!(Op.bytesLess a b || a == b)) = true then 1 else 0) = tcmp a b
  | [], [] => by simp [Op.bytesLess, tcmp]
  | [], _ :: _ => by simp [Op.bytesLess, tcmp]
  | _ :: _, [] => by simp [Op.bytesLess, tcmp]
  | a :: l, b :: m => by
    have ih := less_tcmp l m
    have h1 : (a < b) ↔ ((a.toNat : Int) < (b.toNat : Int)) := by rw [UInt8.lt_iff_toNat_lt]; omega
    have h3 : a = b ↔ ((a.toNat : Int) = (b.toNat : Int)) := ⟨fun h => by rw [h], fun h => UInt8.toNat_inj.1 (by omega)⟩
    unfold Op.bytesLess tcmp
    by_cases e : a = b
    · subst e
      rw [if_pos (sgn_self _), ← ih]
      have hn : ¬ a < a := fun h => by have := h1.1 h; omega
      simp [hn]
    · have hne : ¬ ((a.toNat : Int) = (b.toNat : Int)) := fun h => e (h3.2 h)
      have hs : ¬ sgn (a.toNat : Int) (b.toNat : Int) = 0 := fun h => hne (sgn_zero h)
      rw [if_neg hs]
      unfold sgn
      by_cases hl : a < b
      · rw [if_pos (h1.1 hl)]
        simp [hl]
      · have h9 : ¬ ((a.toNat : Int) < (b.toNat : Int)) := fun h => hl (h1.2 h)
        have hg : (b.toNat : Int) < (a.toNat : Int) := by omega
        rw [if_neg (fun h => hl (h1.2 h)), if_pos hg]
        simp [hl, e]
end Go.Core
namespace Go.Proofs.YtahjbnfbilkbcaaGreatDoor
open Go.AX Go.RowKit Go.Core
set_option maxRecDepth 20000

theorem sign_c (x y : Bool) : ∀ H, SpecH Tryz.prog 106 (pvs [.bool x, .bool y]) H (Ret (.int .i64 (if x then -1 else if y then 1 else 0)) H) := by
  refine pureC hm Tryz.func106 (by kernel_rfl) rfl rfl ?_
  cases x <;> cases y <;> ((first | refine wX ?_ | exact wZ); rfl)
def rmA (a : Option Addr) (ca : Nat) (l : List CellP) (u v : Int) (kb nn : Nat) : List AV := pvs [.slice a l.length ca, .int .i64 u, .int .i64 v, .slice (some ⟨kb, 0, none⟩) nn nn]
def reH (F : World → Prop) (kb nn : Nat) (m : List Int) : List Ent := [.app 3 1 (iC m) (some ⟨kb, 0, none⟩) nn nn, .fact F]
theorem reH_ok (F : World → Prop) (kb nn : Nat) (m : List Int) : okH (reH F kb nn m).length (reH F kb nn m) := okHB_eq rfl
set_option maxHeartbeats 8000000 in
theorem rcompare_c (a : Option Addr) (ca : Nat) (l : List CellP) (ha : a = none → l = []) (hs : Small l) (hok : ∀ p ∈ l, CellOk p) (hv : ValidP (l.map (·.c))) (kb : Nat) : ∀ (n : Nat) (u d : List (Int × Int)) (m : List Int) (p : Int × Int), InP (l.map (·.c)) p → left (l.map (·.c)) u < n → Marks (l.map (·.c)) u d m →
    SpecH Tryz.prog 66 (rmA a ca l p.1 p.2 kb (l.length * l.length)) (reH (GrF a l) kb (l.length * l.length) m)
      (RetG (ι := Unit) (fun _ => True) (fun _ => .tuple #[.int .i64 (rcmpF 3 10 (l.map (·.c)) n m p).1.1, .int .i64 (rcmpF 3 10 (l.map (·.c)) n m p).1.2]) (fun _ => reH (GrF a l) kb (l.length * l.length) (rcmpF 3 10 (l.map (·.c)) n m p).2)) := by
  have hg := valid_in hv
  have hkd := valid_kind hv
  have hnt := neat_valid hv
  intro n
  induction n with
  | zero => intro u d i p _ h; omega
  | succ n ih =>
    rintro u d m ⟨u0, v0⟩ hp hn hM
    obtain ⟨x1, rfl⟩ : ∃ x1 : Nat, u0 = (x1 : Int) := ⟨u0.toNat, by have := hp.1; simp only at this; omega⟩
    obtain ⟨y1, rfl⟩ : ∃ y1 : Nat, v0 = (y1 : Int) := ⟨v0.toNat, by have := hp.2; simp only at this; omega⟩
    have hu : x1 < l.length := by have := hp.1.2; simp only [List.length_map] at this; omega
    have hv1 : y1 < l.length := by have := hp.2.2; simp only [List.length_map] at this; omega
    obtain ⟨x, hx⟩ : ∃ x, l[x1]? = some x := ⟨_, List.getElem?_eq_getElem hu⟩
    obtain ⟨y, hy⟩ : ∃ y, l[y1]? = some y := ⟨_, List.getElem?_eq_getElem hv1⟩
    have hxm := List.mem_of_getElem? hx
    have hym := List.mem_of_getElem? hy
    have hxo := hok x hxm
    have hyo := hok y hym
    have hxs := hs.2 x hxm
    have hys := hs.2 y hym
    have hl := hs.1
    have hgl : (l.map (·.c)).length = l.length := by simp
    have h500 : l.length ≤ 500 := by have := hv.1; omega
    have hsq := sq_le h500
    have hkx := hkd x.c (List.mem_map.2 ⟨x, hxm, rfl⟩)
    have hsa : a.isSome = true := by
      cases a with
      | none => rw [ha rfl] at hu; exact absurd hu (Nat.not_lt_zero _)
      | some b => rfl
    have hix : Go.Core.idx (l.map (·.c)) ((x1 : Int), (y1 : Int)) = x1 * l.length + y1 := by unfold Go.Core.idx; rw [hgl]; rfl
    have hilt := idx_lt hp
    rw [hix, hgl] at hilt
    have hiw : IntKind.i64.wrap (IntKind.i64.wrap ((x1 : Int) * (l.length : Int)) + (y1 : Int)) = ((x1 * l.length + y1 : Nat) : Int) := by
      rw [mul_wrap (by omega) h500, wrap_i64 (by omega)]
      omega
    have hml : m.length = l.length * l.length := by rw [hM.len, hgl]
    have hcmp : rcmpF 3 10 (l.map (·.c)) (n + 1) m ((x1 : Int), (y1 : Int)) = if x.c.kind ≠ y.c.kind then ((0, 3), m)
        else if x.c.kind = 3 then ((sgn x.c.num y.c.num, 0), m)
        else if x.c.kind = 4 ∨ x.c.kind = 5 then ((tcmp x.c.text y.c.text, 0), m)
        else if x.c.kind = 6 then
          if m.getD (x1 * l.length + y1) 0 = 1 then ((0, 10), m)
          else if m.getD (x1 * l.length + y1) 0 = 2 then ((0, 0), m)
          else match cmpL (rcmpF 3 10 (l.map (·.c)) n) (m.set (x1 * l.length + y1) 1) (x.c.items.zip y.c.items) with
            | (r, m') => if r.1 = 0 ∧ r.2 = 0 then ((sgn (x.c.items.length : Int) (y.c.items.length : Int), 0), m'.set (x1 * l.length + y1) 2) else (r, m')
        else ((0, 3), m) := by
      conv => lhs; unfold rcmpF
      have hnx : nextP (l.map (·.c)) ((x1 : Int), (y1 : Int)) = x.c.items.zip y.c.items := by unfold nextP; rw [at_map hx, at_map hy]
      rw [hnx, hix]
      simp only [at_map hx, at_map hy]
    show SpecH _ _ (rmA a ca l (x1 : Int) (y1 : Int) kb (l.length * l.length)) _ _
    rw [hcmp]
    clear hcmp
    obtain ⟨W, hW⟩ : ∃ W, W = (if x.c.kind ≠ y.c.kind then ((0, 3), m)
        else if x.c.kind = 3 then ((sgn x.c.num y.c.num, 0), m)
        else if x.c.kind = 4 ∨ x.c.kind = 5 then ((tcmp x.c.text y.c.text, 0), m)
        else if x.c.kind = 6 then
          if m.getD (x1 * l.length + y1) 0 = 1 then ((0, 10), m)
          else if m.getD (x1 * l.length + y1) 0 = 2 then ((0, 0), m)
          else match cmpL (rcmpF 3 10 (l.map (·.c)) n) (m.set (x1 * l.length + y1) 1) (x.c.items.zip y.c.items) with
            | (r, m') => if r.1 = 0 ∧ r.2 = 0 then ((sgn (x.c.items.length : Int) (y.c.items.length : Int), 0), m'.set (x1 * l.length + y1) 2) else (r, m')
        else ((0, 3), m)) := ⟨_, rfl⟩
    rw [← hW]
    refine ownC hm Tryz.func66 (by kernel_rfl) rfl rfl (fun _ _ => reH_ok _ _ _ _) (fun _ _ => Nat.le_refl _) ?_
    (first | refine wX ?_ | exact wZ)
    refine Nd.mk ⟨hsa, by omega, by omega⟩ ?_
    (first | refine wX ?_ | exact wZ)
    refine LdN.agg (cellC x) rfl (fun w hw => hw.2.1.1) rfl (fun k hk => by rw [Int.toNat_natCast]; exact grC_get l x1 k hk hx) ?_
    (first | refine wX ?_ | exact wZ)
    refine Nd.mk ⟨hsa, by omega, by omega⟩ ?_
    (first | refine wX ?_ | exact wZ)
    refine LdN.agg (cellC y) rfl (fun w hw => hw.2.1.1) rfl (fun k hk => by rw [Int.toNat_natCast]; exact grC_get l y1 k hk hy) ?_
    obtain ⟨⟨kx, nx, tx, nmx, ix⟩, nax, ncx, iax, icx⟩ := x
    obtain ⟨⟨ky, ny, ty, nmy, iy⟩, nay, ncy, iay, icy⟩ := y
    simp only at hkx hW hxo hyo hxs hys
    have hkk : kx = 0 ∨ kx = 1 ∨ kx = 2 ∨ kx = 3 ∨ kx = 4 ∨ kx = 5 ∨ kx = 6 ∨ kx = 7 ∨ kx = 8 := by omega
    rcases hkk with rfl | rfl | rfl | rfl | rfl | rfl | rfl | rfl | rfl
    · (first | refine wX ?_ | exact wZ)
      refine brd_ne (fun h1 => ?_) (fun h1 => ?_)
      · (first | refine wX ?_ | exact wZ)
        -- no order
        obtain rfl : W = ((0, 3), m) := by rw [hW]; first | rw [if_pos h1] | (rw [if_neg (fun h => h rfl)]; rfl)
        exact ⟨(), trivial, rfl, wkE_refl _, wkE_refl _, trivial⟩
      · obtain rfl : ky = _ := h1.symm
        (first | refine wX ?_ | exact wZ)
        -- no order
        obtain rfl : W = ((0, 3), m) := by rw [hW]; first | rw [if_pos h1] | (rw [if_neg (fun h => h rfl)]; rfl)
        exact ⟨(), trivial, rfl, wkE_refl _, wkE_refl _, trivial⟩
    · (first | refine wX ?_ | exact wZ)
      refine brd_ne (fun h1 => ?_) (fun h1 => ?_)
      · (first | refine wX ?_ | exact wZ)
        -- no order
        obtain rfl : W = ((0, 3), m) := by rw [hW]; first | rw [if_pos h1] | (rw [if_neg (fun h => h rfl)]; rfl)
        exact ⟨(), trivial, rfl, wkE_refl _, wkE_refl _, trivial⟩
      · obtain rfl : ky = _ := h1.symm
        (first | refine wX ?_ | exact wZ)
        -- no order
        obtain rfl : W = ((0, 3), m) := by rw [hW]; first | rw [if_pos h1] | (rw [if_neg (fun h => h rfl)]; rfl)
        exact ⟨(), trivial, rfl, wkE_refl _, wkE_refl _, trivial⟩
    · (first | refine wX ?_ | exact wZ)
      refine brd_ne (fun h1 => ?_) (fun h1 => ?_)
      · (first | refine wX ?_ | exact wZ)
        -- no order
        obtain rfl : W = ((0, 3), m) := by rw [hW]; first | rw [if_pos h1] | (rw [if_neg (fun h => h rfl)]; rfl)
        exact ⟨(), trivial, rfl, wkE_refl _, wkE_refl _, trivial⟩
      · obtain rfl : ky = _ := h1.symm
        (first | refine wX ?_ | exact wZ)
        -- no order
        obtain rfl : W = ((0, 3), m) := by rw [hW]; first | rw [if_pos h1] | (rw [if_neg (fun h => h rfl)]; rfl)
        exact ⟨(), trivial, rfl, wkE_refl _, wkE_refl _, trivial⟩
    · (first | refine wX ?_ | exact wZ)
      refine brd_ne (fun h1 => ?_) (fun h1 => ?_)
      · (first | refine wX ?_ | exact wZ)
        -- no order
        obtain rfl : W = ((0, 3), m) := by rw [hW]; first | rw [if_pos h1] | (rw [if_neg (fun h => h rfl)]; rfl)
        exact ⟨(), trivial, rfl, wkE_refl _, wkE_refl _, trivial⟩
      obtain rfl : ky = _ := h1.symm
      (first | refine wX ?_ | exact wZ)
      refine call1 (sign_c _ _ _) ?_
      obtain rfl : W = ((sgn nx ny, 0), m) := by rw [hW, if_neg (fun h => h rfl), if_pos rfl]
      (first | refine wX ?_ | exact wZ)
      refine ⟨(), trivial, ?_, wkE_refl _, wkE_refl _, trivial⟩
      have hsg : (if decide (nx < ny) = true then (-1 : Int) else if decide (nx > ny) = true then 1 else 0) = sgn nx ny := by
        unfold sgn
        simp only [decide_eq_true_eq]
      rw [← hsg]
    · (first | refine wX ?_ | exact wZ)
      refine brd_ne (fun h1 => ?_) (fun h1 => ?_)
      · (first | refine wX ?_ | exact wZ)
        -- no order
        obtain rfl : W = ((0, 3), m) := by rw [hW]; first | rw [if_pos h1] | (rw [if_neg (fun h => h rfl)]; rfl)
        exact ⟨(), trivial, rfl, wkE_refl _, wkE_refl _, trivial⟩
      obtain rfl : ky = _ := h1.symm
      obtain rfl : W = ((tcmp tx ty, 0), m) := by rw [hW, if_neg (fun h => h rfl), if_neg (by show ¬ (4 : Int) = 3; decide), if_pos (by show (4 : Int) = 4 ∨ (4 : Int) = 5; decide)]
      (first | refine wX ?_ | exact wZ)
      refine call1 (sign_c _ _ _) ?_
      (first | refine wX ?_ | exact wZ)
      refine ⟨(), trivial, ?_, wkE_refl _, wkE_refl _, trivial⟩
      rw [bs_list, bs_list, less_tcmp]
    · (first | refine wX ?_ | exact wZ)
      refine brd_ne (fun h1 => ?_) (fun h1 => ?_)
      · (first | refine wX ?_ | exact wZ)
        -- no order
        obtain rfl : W = ((0, 3), m) := by rw [hW]; first | rw [if_pos h1] | (rw [if_neg (fun h => h rfl)]; rfl)
        exact ⟨(), trivial, rfl, wkE_refl _, wkE_refl _, trivial⟩
      obtain rfl : ky = _ := h1.symm
      obtain rfl : W = ((tcmp tx ty, 0), m) := by rw [hW, if_neg (fun h => h rfl), if_neg (by show ¬ (5 : Int) = 3; decide), if_pos (by show (5 : Int) = 4 ∨ (5 : Int) = 5; decide)]
      (first | refine wX ?_ | exact wZ)
      refine call1 (sign_c _ _ _) ?_
      (first | refine wX ?_ | exact wZ)
      refine ⟨(), trivial, ?_, wkE_refl _, wkE_refl _, trivial⟩
      rw [bs_list, bs_list, less_tcmp]
    · (first | refine wX ?_ | exact wZ)
      refine brd_ne (fun h1 => ?_) (fun h1 => ?_)
      · (first | refine wX ?_ | exact wZ)
        -- no order
        obtain rfl : W = ((0, 3), m) := by rw [hW]; first | rw [if_pos h1] | (rw [if_neg (fun h => h rfl)]; rfl)
        exact ⟨(), trivial, rfl, wkE_refl _, wkE_refl _, trivial⟩
      obtain rfl : ky = 6 := h1.symm
      rw [if_neg (fun h => h rfl), if_neg (by decide), if_neg (by decide), if_pos rfl] at hW
      obtain ⟨q, hq⟩ : ∃ q, m[x1 * l.length + y1]? = some q := ⟨_, List.getElem?_eq_getElem (by omega)⟩
      have hgd : m.getD (x1 * l.length + y1) 0 = q := by rw [List.getD_eq_getElem?_getD, hq]; rfl
      rw [hgd] at hW
      have hmi := hM.is _ hp
      rw [hix, hgd] at hmi
      ((conv => whnf); (repeat ((first | refine BoxN.own ?_ | refine VrN.norm (wrap_i64 (by omega)) ?_ | refine VrN.keep ?_ | refine DrawN.calm (by decide +kernel) ?_ | refine Nd.mk (by decide +kernel) ?_ | refine Nd.mk (by omega) ?_ | (refine Nd.mk ?_ ?_; focus ((repeat' (first | exact trivial | exact wkE_refl _ | refine And.intro ?_ ?_)); done)) | refine RdN.intro _ rfl (by rfl) ?_); (conv => whnf))))
      rw [hiw]
      refine Nd.mk ⟨rfl, by omega, by omega⟩ ?_
      (first | refine wX ?_ | exact wZ)
      refine LdN.one (a := some ⟨kb, 0, none⟩) (.int .i64 q) rfl (fun w hw => hw.1) (by rw [Int.toNat_natCast]; show (iC m)[(x1 * l.length + y1) * 1]? = _; rw [Nat.mul_one]; exact iC_get hq) ?_
      (first | refine wX ?_ | exact wZ)
      refine brd_eq (fun h2 => ?_) (fun h2 => ?_)
      · obtain rfl : W = ((0, 10), m) := by rw [hW, if_pos h2]
        (first | refine wX ?_ | exact wZ)
        exact ⟨(), trivial, rfl, wkE_refl _, wkE_refl _, trivial⟩
      (first | refine wX ?_ | exact wZ)
      refine Nd.mk ⟨rfl, by omega, by omega⟩ ?_
      (first | refine wX ?_ | exact wZ)
      refine LdN.one (a := some ⟨kb, 0, none⟩) (.int .i64 q) rfl (fun w hw => hw.1) (by rw [Int.toNat_natCast]; show (iC m)[(x1 * l.length + y1) * 1]? = _; rw [Nat.mul_one]; exact iC_get hq) ?_
      (first | refine wX ?_ | exact wZ)
      refine brd_eq (fun h3 => ?_) (fun h3 => ?_)
      · obtain rfl : W = ((0, 0), m) := by rw [hW, if_neg h2, if_pos h3]
        (first | refine wX ?_ | exact wZ)
        exact ⟨(), trivial, rfl, wkE_refl _, wkE_refl _, trivial⟩
      rw [if_neg h2, if_neg h3] at hW
      have hnu : ((x1 : Int), (y1 : Int)) ∉ u := fun h => by rw [if_pos h] at hmi; exact h2 hmi
      have hlt := left_cons hp hnu
      have hM2 := hM.under hp
      rw [hix] at hM2
      (first | refine wX ?_ | exact wZ)
      refine Nd.mk ⟨rfl, by omega, by omega⟩ ?_
      (first | refine wX ?_ | exact wZ)
      refine EffW.appTo (i := 0) (q := x1 * l.length + y1) (ys := [.int .i64 1]) (iC (m.set (x1 * l.length + y1) 1)) 1 rfl (by rw [Int.toNat_natCast]; show AV.c (CV.v (Value.pointer (some ((⟨kb, 0, none⟩ : Addr).add ((x1 * l.length + y1) * 1))))) = _; rw [add_lit0, Nat.mul_one]) rfl rfl rfl rfl rfl (by show _ + 1 ≤ _ * 1; omega) (by rw [put_set _ (by simp [iC]; omega), iC_set]) rfl ?_
      generalize m.set (x1 * l.length + y1) 1 = m2 at *
      obtain ⟨WL, hWL⟩ : ∃ WL, WL = cmpL (rcmpF 3 10 (l.map (·.c)) n) m2 (ix.zip iy) := ⟨_, rfl⟩
      rw [← hWL] at hW
      have e1 : (⟨⟨6, nx, tx, nmx, ix⟩, nax, ncx, iax, icx⟩ : CellP).c.items.length = ix.length := rfl
      have e2 : (⟨⟨6, ny, ty, nmy, iy⟩, nay, ncy, iay, icy⟩ : CellP).c.items.length = iy.length := rfl
      have hixl : ix.length ≤ 2000 := hxs.2
      have hiyl : iy.length ≤ 2000 := hys.2
      obtain ⟨mn, hmn⟩ : ∃ mn, mn = min ix.length iy.length := ⟨_, rfl⟩
      have hzl : (ix.zip iy).length = mn := by rw [List.length_zip, hmn]
      (first | refine wX ?_ | exact wZ)
      refine LoopN.intro (Nat × List (Int × Int) × List Int) (fun ⟨k, d3, m3⟩ => k ≤ mn ∧ Marks (l.map (·.c)) (((x1 : Int), (y1 : Int)) :: u) d3 m3 ∧ cmpL (rcmpF 3 10 (l.map (·.c)) n) m3 ((ix.zip iy).drop k) = WL)
        (fun ⟨k, _, _⟩ => mkS Tryz.f66.ntmps 0 [(0, .c (.v (.slice a l.length ca))), (3, .c (.v (.slice (some ⟨kb, 0, none⟩) (l.length * l.length) (l.length * l.length)))), (10, .c (.lp 2 0)), (11, .c (.lp 3 0)), (12, .c (.v (.int .i64 ((x1 * l.length + y1 : Nat) : Int)))), (13, .c (.v (.int .i64 (k : Int))))])
        (fun ⟨_, _, m3⟩ => [.app 3 1 (iC m3) (some ⟨kb, 0, none⟩) (l.length * l.length) (l.length * l.length), .fact (GrF a l), .blk 73 (vs (cellC ⟨⟨6, nx, tx, nmx, ix⟩, nax, ncx, iax, icx⟩)), .blk 73 (vs (cellC ⟨⟨6, ny, ty, nmy, iy⟩, nay, ncy, iay, icy⟩))]) (fun ⟨k, _, _⟩ => mn - k) [] rfl (fun ⟨_, _, _⟩ => rfl) (fun ⟨_, _, _⟩ => rfl) (fun ⟨_, _, _⟩ _ => okHB_eq rfl) ?_ ?_
      · refine ⟨(0, d, m2), ⟨Nat.zero_le _, hM2, hWL.symm⟩, ?_, wkE_refl _, wkE_refl _, wkE_refl _, wkE_refl _, trivial⟩
        (repeat' (first | exact trivial | refine And.intro (by with_reducible rfl) ?_ | (with_reducible exact wkC_refl _) | (with_reducible exact wkCs_refl _) | refine And.intro ?_ ?_))
        all_goals rfl
      rintro ⟨k, d3, m3⟩ ⟨hk, hM3, hwk⟩
      have hm3l : m3.length = l.length * l.length := by rw [hM3.len, hgl]
      (first | refine wX ?_ | exact wZ)
      refine brd_dec (fun h6 => ?_) (fun h6 => ?_)
      rotate_left
      · have hkm : k = mn := by omega
        subst hkm
        rw [List.drop_of_length_le (by omega)] at hwk
        have hwk2 : ((0, 0), m3) = WL := hwk
        rw [← hwk2] at hW
        have hW2 : W = ((sgn (ix.length : Int) (iy.length : Int), 0), m3.set (x1 * l.length + y1) 2) := by rw [hW]; simp
        clear hW
        subst hW2
        (first | refine wX ?_ | exact wZ)
        refine Nd.mk ⟨rfl, by omega, by omega⟩ ?_
        (first | refine wX ?_ | exact wZ)
        refine EffW.appTo (i := 0) (q := x1 * l.length + y1) (ys := [.int .i64 2]) (iC (m3.set (x1 * l.length + y1) 2)) 1 rfl (by rw [Int.toNat_natCast]; show AV.c (CV.v (Value.pointer (some ((⟨kb, 0, none⟩ : Addr).add ((x1 * l.length + y1) * 1))))) = _; rw [add_lit0, Nat.mul_one]) rfl rfl rfl rfl rfl (by show _ + 1 ≤ _ * 1; omega) (by rw [put_set _ (by simp [iC]; omega), iC_set]) rfl ?_
        (first | refine wX ?_ | exact wZ)
        refine call1 (sign_c _ _ _) ?_
        (first | refine wX ?_ | exact wZ)
        refine ⟨(), trivial, ?_, wkE_refl _, wkE_refl _, trivial⟩
        have hsg : (if decide ((ix.length : Int) < (iy.length : Int)) = true then (-1 : Int) else if decide ((ix.length : Int) > (iy.length : Int)) = true then 1 else 0) = sgn (ix.length : Int) (iy.length : Int) := by
          unfold sgn
          simp only [decide_eq_true_eq]
        rw [← hsg]
      (first | refine wX ?_ | exact wZ)
      refine brd_dec (fun h7 => ?_) (fun h7 => ?_)
      rotate_left
      · have hkm : k = mn := by omega
        subst hkm
        rw [List.drop_of_length_le (by omega)] at hwk
        have hwk2 : ((0, 0), m3) = WL := hwk
        rw [← hwk2] at hW
        have hW2 : W = ((sgn (ix.length : Int) (iy.length : Int), 0), m3.set (x1 * l.length + y1) 2) := by rw [hW]; simp
        clear hW
        subst hW2
        (first | refine wX ?_ | exact wZ)
        refine Nd.mk ⟨rfl, by omega, by omega⟩ ?_
        (first | refine wX ?_ | exact wZ)
        refine EffW.appTo (i := 0) (q := x1 * l.length + y1) (ys := [.int .i64 2]) (iC (m3.set (x1 * l.length + y1) 2)) 1 rfl (by rw [Int.toNat_natCast]; show AV.c (CV.v (Value.pointer (some ((⟨kb, 0, none⟩ : Addr).add ((x1 * l.length + y1) * 1))))) = _; rw [add_lit0, Nat.mul_one]) rfl rfl rfl rfl rfl (by show _ + 1 ≤ _ * 1; omega) (by rw [put_set _ (by simp [iC]; omega), iC_set]) rfl ?_
        (first | refine wX ?_ | exact wZ)
        refine call1 (sign_c _ _ _) ?_
        (first | refine wX ?_ | exact wZ)
        refine ⟨(), trivial, ?_, wkE_refl _, wkE_refl _, trivial⟩
        have hsg : (if decide ((ix.length : Int) < (iy.length : Int)) = true then (-1 : Int) else if decide ((ix.length : Int) > (iy.length : Int)) = true then 1 else 0) = sgn (ix.length : Int) (iy.length : Int) := by
          unfold sgn
          simp only [decide_eq_true_eq]
        rw [← hsg]
      obtain ⟨xi, hxi⟩ : ∃ z, ix[k]? = some z := ⟨_, List.getElem?_eq_getElem (by omega)⟩
      obtain ⟨yi, hyi⟩ : ∃ z, iy[k]? = some z := ⟨_, List.getElem?_eq_getElem (by omega)⟩
      have hxa : iax.isSome = true := by
        cases hq : iax with
        | none =>
          have hxe : ix = [] := hxo.ia hq
          rw [hxe] at hxi; cases hxi
        | some b => rfl
      have hya : iay.isSome = true := by
        cases hq : iay with
        | none =>
          have hye : iy = [] := hyo.ia hq
          rw [hye] at hyi; cases hyi
        | some b => rfl
      have hz : (ix.zip iy)[k]? = some (xi, yi) := List.getElem?_zip_eq_some.2 ⟨hxi, hyi⟩
      have hnx : nextP (l.map (·.c)) ((x1 : Int), (y1 : Int)) = ix.zip iy := by unfold nextP; rw [at_map hx, at_map hy]
      have hin : InP (l.map (·.c)) (xi, yi) := next_in hg hp (by rw [hnx]; exact List.mem_of_getElem? hz)
      ((conv => whnf); (repeat ((first | refine VrN.keep ?_ | refine BoxN.own ?_ | refine RwN.own ?_); (conv => whnf))))
      refine DrawN.plan [0, 1, 3, 6, 8, 11] [(2, 1), (4, 1), (5, 1), (7, 1), (9, 1), (10, 1)] [(12, 0), (13, 0), (14, 1), (15, 1), (16, 1), (17, 1)] (by decide +kernel) ?_
      (first | refine wX ?_ | exact wZ)
      refine Nd.mk ⟨hxa, by omega, by omega⟩ ?_
      (first | refine wX ?_ | exact wZ)
      refine LdN.one (.int .i64 xi) rfl (fun w hw => (hw.2.1.2 _ hxm).2) (by rw [Int.toNat_natCast]; show (iC ix)[k * 1]? = _; rw [Nat.mul_one]; exact iC_get hxi) ?_
      (first | refine wX ?_ | exact wZ)
      refine Nd.mk ⟨hya, by omega, by omega⟩ ?_
      (first | refine wX ?_ | exact wZ)
      refine LdN.one (.int .i64 yi) rfl (fun w hw => (hw.2.1.2 _ hym).2) (by rw [Int.toNat_natCast]; show (iC iy)[k * 1]? = _; rw [Nat.mul_one]; exact iC_get hyi) ?_
      (first | refine wX ?_ | exact wZ)
      refine SpecH.args (args' := rmA a ca l xi yi kb (l.length * l.length)) (by simp [rmA, pvs, opvs, opv, nth]; try rfl) ?_
      refine callG (ih (((x1 : Int), (y1 : Int)) :: u) d3 m3 (xi, yi) hin (by omega) hM3) [0, 1] rfl ⟨rfl, rfl, trivial⟩ rfl fun _ _ => ?_
      have hsim := rcmp_sim (eN := 3) (eC := 10) hg hnt n (((x1 : Int), (y1 : Int)) :: u) d3 m3 (xi, yi) hin hM3
      obtain ⟨⟨⟨r1, r2⟩, m4⟩, hb⟩ : ∃ z, rcmpF 3 10 (l.map (·.c)) n m3 (xi, yi) = z := ⟨_, rfl⟩
      rw [cmpL_at hz, hb] at hwk
      rw [hb] at hsim ⊢
      obtain ⟨hs1, hs2⟩ := hsim
      simp only at hwk hs1 hs2 ⊢
      (first | refine wX ?_ | exact wZ)
      refine brd_ne (fun hr1 => ?_) (fun hr1 => ?_)
      · have hne : ¬ (r1 = 0 ∧ r2 = 0) := fun h => hr1 h.1
        -- the answer is handed on
        rw [if_neg hne] at hwk
        have hWe : W = ((r1, r2), m4) := by
          rw [hW, ← hwk]
          simp only
          rw [if_neg hne]
        clear hW
        subst hWe
        (first | refine wX ?_ | exact wZ)
        exact ⟨(), trivial, rfl, wkE_refl _, wkE_refl _, trivial⟩
      (first | refine wX ?_ | exact wZ)
      refine brd_ne (fun hr2 => ?_) (fun hr2 => ?_)
      · have hne : ¬ (r1 = 0 ∧ r2 = 0) := fun h => hr2 h.2
        -- the answer is handed on
        rw [if_neg hne] at hwk
        have hWe : W = ((r1, r2), m4) := by
          rw [hW, ← hwk]
          simp only
          rw [if_neg hne]
        clear hW
        subst hWe
        (first | refine wX ?_ | exact wZ)
        exact ⟨(), trivial, rfl, wkE_refl _, wkE_refl _, trivial⟩
      rw [if_pos ⟨hr1, hr2⟩] at hwk
      (first | refine wX ?_ | exact wZ)
      refine ⟨(k + 1, (cmpF 3 10 (l.map (·.c)) n (((x1 : Int), (y1 : Int)) :: u) d3 (xi, yi)).2, m4), ⟨by omega, hs2 (by rw [← hs1, hr1, hr2]), hwk⟩, by show mn - (k + 1) < mn - k; omega, ?_, wkE_refl _, wkE_refl _, wkE_refl _, wkE_refl _, trivial⟩
      (repeat' (first | exact trivial | refine And.intro (by with_reducible rfl) ?_ | (with_reducible exact wkC_refl _) | (with_reducible exact wkCs_refl _) | refine And.intro ?_ ?_))
      all_goals first | rfl | exact av_int (by rw [wrap_i64 (by omega)]; omega)
    · (first | refine wX ?_ | exact wZ)
      refine brd_ne (fun h1 => ?_) (fun h1 => ?_)
      · (first | refine wX ?_ | exact wZ)
        -- no order
        obtain rfl : W = ((0, 3), m) := by rw [hW]; first | rw [if_pos h1] | (rw [if_neg (fun h => h rfl)]; rfl)
        exact ⟨(), trivial, rfl, wkE_refl _, wkE_refl _, trivial⟩
      · obtain rfl : ky = _ := h1.symm
        (first | refine wX ?_ | exact wZ)
        -- no order
        obtain rfl : W = ((0, 3), m) := by rw [hW]; first | rw [if_pos h1] | (rw [if_neg (fun h => h rfl)]; rfl)
        exact ⟨(), trivial, rfl, wkE_refl _, wkE_refl _, trivial⟩
    · (first | refine wX ?_ | exact wZ)
      refine brd_ne (fun h1 => ?_) (fun h1 => ?_)
      · (first | refine wX ?_ | exact wZ)
        -- no order
        obtain rfl : W = ((0, 3), m) := by rw [hW]; first | rw [if_pos h1] | (rw [if_neg (fun h => h rfl)]; rfl)
        exact ⟨(), trivial, rfl, wkE_refl _, wkE_refl _, trivial⟩
      · obtain rfl : ky = _ := h1.symm
        (first | refine wX ?_ | exact wZ)
        -- no order
        obtain rfl : W = ((0, 3), m) := by rw [hW]; first | rw [if_pos h1] | (rw [if_neg (fun h => h rfl)]; rfl)
        exact ⟨(), trivial, rfl, wkE_refl _, wkE_refl _, trivial⟩
end Go.Proofs.YtahjbnfbilkbcaaGreatDoor

/-
  Contracts: Compare (document); CoreCompares (law).
-/
namespace Go.Core
theorem tcmp_range : ∀ l m : List UInt8, -1 ≤ tcmp l m ∧ tcmp l m ≤ 1
  | [], [] => ⟨by decide, by decide⟩
  | [], _ :: _ => ⟨by show (-1 : Int) ≤ -1; decide, by show (-1 : Int) ≤ 1; decide⟩
  | _ :: _, [] => ⟨by show (-1 : Int) ≤ 1; decide, by show (1 : Int) ≤ 1; decide⟩
  | a :: l, b :: m => by
    unfold tcmp
    split
    · exact tcmp_range l m
    · unfold sgn
      split
      · omega
      · split <;> omega
theorem sgn_range (a b : Int) : -1 ≤ sgn a b ∧ sgn a b ≤ 1 := by
  unfold sgn
  split
  · omega
  · split <;> omega
theorem cmpF_range {eN eC : Int} {g : List Cell} : ∀ (n : Nat) (u d : List (Int × Int)) (p : Int × Int), -1 ≤ (cmpF eN eC g n u d p).1.1 ∧ (cmpF eN eC g n u d p).1.1 ≤ 1
  | 0, _, _, _ => ⟨by show (-1 : Int) ≤ 0; omega, by show (0 : Int) ≤ 1; omega⟩
  | n + 1, u, d, p => by
    have hl : ∀ (l : List (Int × Int)) (d : List (Int × Int)), -1 ≤ (cmpL (cmpF eN eC g n (p :: u)) d l).1.1 ∧ (cmpL (cmpF eN eC g n (p :: u)) d l).1.1 ≤ 1 := by
      intro l
      induction l with
      | nil => exact fun _ => ⟨by show (-1 : Int) ≤ 0; omega, by show (0 : Int) ≤ 1; omega⟩
      | cons q l ih =>
        intro d
        have h1 := cmpF_range (eN := eN) (eC := eC) (g := g) n (p :: u) d q
        unfold cmpL
        obtain ⟨⟨r, d'⟩, hx⟩ : ∃ x, cmpF eN eC g n (p :: u) d q = x := ⟨_, rfl⟩
        rw [hx] at h1 ⊢
        simp only at h1 ⊢
        split
        · exact ih d'
        · exact h1
    unfold cmpF
    split
    · exact ⟨by show (-1 : Int) ≤ 0; omega, by show (0 : Int) ≤ 1; omega⟩
    split
    · unfold leafC
      simp only
      split
      · exact tcmp_range _ _
      · exact sgn_range _ _
    split
    · exact ⟨by show (-1 : Int) ≤ 0; omega, by show (0 : Int) ≤ 1; omega⟩
    split
    · exact ⟨by show (-1 : Int) ≤ 0; omega, by show (0 : Int) ≤ 1; omega⟩
    · have h2 := hl (nextP g p) d
      obtain ⟨⟨r, d'⟩, hx⟩ : ∃ x, cmpL (cmpF eN eC g n (p :: u)) d (nextP g p) = x := ⟨_, rfl⟩
      rw [hx] at h2 ⊢
      simp only at h2 ⊢
      split
      · exact sgn_range _ _
      · exact h2
theorem ask_swap {g : List Cell} {u v : Int} : AskP g [v, u] ↔ AskP g [u, v] := by
  rw [ask2, ask2]
  exact ⟨fun h => ⟨h.2, h.1⟩, fun h => ⟨h.2, h.1⟩⟩
end Go.Core
namespace Go.Proofs.YtahjbnfbilkbcaaGreatDoor
open Go.AX Go.RowKit Go.Core
set_option maxRecDepth 20000

set_option maxHeartbeats 4000000 in
theorem RCompare_c {a : Option Addr} (ca : Nat) {l : List CellP} (ha : a = none → l = []) (hs : Small l) (hok : ∀ p ∈ l, CellOk p) (u v : Int) :
    ∀ H, (∀ w, Facts H w → GrF a l w) → ∃ e : Bool, (e = true ↔ AskP (l.map (·.c)) [u, v]) ∧ SpecH Tryz.prog 32 (pvs [.slice a l.length ca, .int .i64 u, .int .i64 v]) H (Ret (cmpV e (l.map (·.c)) u v) H) := by
  intro H hH
  obtain ⟨e, he⟩ := ask_bool (l.map (·.c)) [u, v]
  have hl := hs.1
  refine ⟨e, he, ?_⟩
  refine factC hm Tryz.func32 (by kernel_rfl) rfl rfl ?_ H hH
  (first | refine wX ?_ | exact wZ)
  obtain ⟨t, ht1, ht2⟩ := RIs_c a ca l ha (by omega) hok u [.fact (GrF a l)] (fun w hw => hw.1)
  obtain ⟨t2, ht3, ht4⟩ := RIs_c a ca l ha (by omega) hok v [.fact (GrF a l)] (fun w hw => hw.1)
  have hee : e = (t && t2) := by rw [Bool.eq_iff_iff, he, ask2, Bool.and_eq_true, ht1, ht3]
  refine call1 ht2 ?_
  cases t with
  | false =>
    subst hee
    (first | refine wX ?_ | exact wZ)
    rfl
  | true =>
  (first | refine wX ?_ | exact wZ)
  refine call1 ht4 ?_
  cases t2 with
  | false =>
    subst hee
    (first | refine wX ?_ | exact wZ)
    rfl
  | true =>
  obtain rfl : e = true := hee
  have hask := he.1 rfl
  have hu := hask.2 u (by simp)
  have hv := hask.2 v (by simp)
  have hgl : (l.map (·.c)).length = l.length := by simp
  have h500 : l.length ≤ 500 := by have := hask.1.1; omega
  have hsq := sq_le h500
  have hmul := mul_wrap h500 h500
  (first | refine wX ?_ | exact wZ)
  rw [hmul]
  refine EffW.mkRow (e := 3) (l.length * l.length) (iC (List.replicate (l.length * l.length) 0)) rfl (by kernel_rfl) rfl rfl rfl rfl rfl rfl ⟨by omega, by decide⟩ (by unfold iC; rw [List.map_replicate]) fun kb => ?_
  (first | refine wX ?_ | exact wZ)
  have hM0 := marks_nil (l.map (·.c))
  rw [hgl] at hM0
  have hsim := rcmp_sim (eN := 3) (eC := 10) (valid_in hask.1) (neat_valid hask.1) (l.length * l.length + 1) [] [] _ (u, v) ⟨hu, hv⟩ hM0
  have hlf := left_nil (l.map (·.c))
  rw [hgl] at hlf
  refine callG (rcompare_c a ca l ha hs hok hask.1 kb (l.length * l.length + 1) [] [] (List.replicate (l.length * l.length) 0) (u, v) ⟨hu, hv⟩ hlf hM0) [1, 0] rfl ⟨rfl, rfl, trivial⟩ rfl fun _ _ => ?_
  rw [hsim.1]
  (first | refine wX ?_ | exact wZ)
  unfold cmpV cmpB
  rw [hgl]
  rfl
set_option maxHeartbeats 4000000 in
theorem CoreCompares_c (a : Option Addr) (ca : Nat) (l : List CellP) (ha : a = none → l = []) (hl : l.length ≤ 200000000000000) (hok : ∀ p ∈ l, CellOk p) (u v : Int) : ∀ H, (∀ w, Facts H w → GrF a l w) → SpecH Tryz.prog 9 (pvs [.slice a l.length ca, .int .i64 u, .int .i64 v]) H (Ret (.bool true) H) := by
  refine factC hm Tryz.func9 (by kernel_rfl) rfl rfl ?_
  (first | refine wX ?_ | exact wZ)
  refine call1 (large_c a ca l ha hl hok _ (fun w hw => hw.1)) ?_
  cases hlb : largeB l with
  | true =>
    (first | refine wX ?_ | exact wZ)
    refine call1 (sane_c _) ?_
    (first | refine wX ?_ | exact wZ)
  | false =>
    have hs := small_of hlb
    obtain ⟨e, he, hes⟩ := Compare_c ca ha hs hok u v [.fact (GrF a l)] (fun w hw => hw.1)
    (first | refine wX ?_ | exact wZ)
    refine call1 hes ?_
    (first | refine wX ?_ | exact wZ)
    refine SpecF.call (as_c a ca l ha hs hok) (fun w hw => hw.1) fun v1 G hv => ?_
    obtain ⟨oa, oc, m, rfl, hoa, hmc, hmo, hG⟩ := hv
    have hms : Small m := small_as hs hmc
    obtain ⟨e2, he2, hes2⟩ := RCompare_c oc hoa hms hmo u v [.fact (GrF a l), .fact G] (fun w hw => hG w hw.2.1)
    rw [hmc] at he2 hes2
    obtain rfl : e2 = e := by rw [Bool.eq_iff_iff, he, he2]
    (first | refine wX ?_ | exact wZ)
    refine call1 hes2 ?_
    obtain ⟨e3, he3, hes3⟩ := Compare_c ca ha hs hok v u [.fact (GrF a l), .fact G] (fun w hw => hw.1)
    obtain rfl : e3 = e2 := by rw [Bool.eq_iff_iff, he, he3, ask_swap]
    (first | refine wX ?_ | exact wZ)
    refine call1 hes3 ?_
    have hsw : cmpB (l.map (·.c)) (v, u) = (- (cmpB (l.map (·.c)) (u, v)).1, (cmpB (l.map (·.c)) (u, v)).2) := by
      have h := cmp_swap 3 10 (l.map (·.c)) ((l.map (·.c)).length * (l.map (·.c)).length + 1) [] [] (u, v)
      exact congrArg Prod.fst h
    have hrg := cmpF_range (eN := 3) (eC := 10) (g := l.map (·.c)) ((l.map (·.c)).length * (l.map (·.c)).length + 1) [] [] (u, v)
    clear hes hes2 hes3
    unfold cmpV
    rw [hsw]
    rw [show (cmpF 3 10 (l.map (·.c)) ((l.map (·.c)).length * (l.map (·.c)).length + 1) [] [] (u, v)).1 = cmpB (l.map (·.c)) (u, v) from rfl] at hrg
    generalize cmpB (l.map (·.c)) (u, v) = r at *
    obtain ⟨r1, r2⟩ := r
    simp only at hrg ⊢
    cases e3 with
    | false =>
      (first | refine wX ?_ | exact wZ)
      refine call1 (sane_c _) ?_
      (first | refine wX ?_ | exact wZ)
    | true =>
      (first | refine wX ?_ | exact wZ)
      rw [if_pos rfl, if_pos rfl, if_pos rfl, beq_self_eq_true]
      (first | refine wX ?_ | exact wZ)
      rw [beq_self_eq_true]
      (first | refine wX ?_ | exact wZ)
      rw [wrap_i64 (x := 0 - r1) (by omega), Int.zero_sub, beq_self_eq_true]
      (first | refine wX ?_ | exact wZ)
      rw [beq_self_eq_true]
      (first | refine wX ?_ | exact wZ)
      refine call1 (sane_c _) ?_
      (first | refine wX ?_ | exact wZ)
end Go.Proofs.YtahjbnfbilkbcaaGreatDoor

/-
  CoreComparesCardSaid is proved: of every graph and two cells CoreCompares returns true and leaves its arguments as they were; the listed tables are tied to the program's text.
-/
namespace Go.Proofs.YtahjbnfbilkbcaaGreatDoor
open Go.ChangeShapes Go.WideShapes Go.ChangeAt Go.RowKit Go.AX Go.Core
set_option maxRecDepth 100000

namespace CoreCompares
theorem own : ownKnob Tryz.prog.godebug = none := own0
theorem walk {H : Type} {enc : TypeId × Value → H} (W : World) (base : Nat) (args : Array Value) (ds : List (DataW H)) (p : List MemPlace) (k : Known enc Tryz.prog Tryz.f9 W base args ds p) (_hL : laidMetH Tryz.prog laid3 W) : Walk Tryz.prog 9 args W := by
  obtain ⟨u, v, z, rfl⟩ := arr3 (trodAll_len k.trod).2
  obtain ⟨d, q, hd, h⟩ := trodAll_get k.trod 0 _ u rfl rfl
  obtain ⟨n, rfl⟩ := okWide_int Tryz.underlying3 (k.val 1 _ v rfl rfl)
  obtain ⟨n2, rfl⟩ := okWide_int Tryz.underlying3 (k.val 2 _ z rfl rfl)
  obtain ⟨a, l, cap, rfl, hl, hsl, ha, hQ⟩ := known_rows (e := 42) (m := 5) cellC (fun _ => rfl) Tryz.underlying22 (by kernel_rfl) (by decide +kernel) cell_read k.weights rfl hd (k.val 0 _ u rfl rfl) h
  exact walkH [.fact (GrF a l)] (fun _ he => ⟨_, List.mem_singleton.1 he, hsl.and (Imm.all fun x hx => (SlAt.imm (hQ x hx).2.1).and (SlAt.imm (hQ x hx).2.2))⟩)
    (CoreCompares_c a cap l ha hl (fun x hx => (hQ x hx).1) n n2 _ fun w hw => hw.1)

theorem lifted (os : Os) (started : os.Started) (H : Type) (enc : TypeId × Value → H) :
    ReturnsInHanded {} Tryz.checked os 9 .any (fun w args => (Rows.coreComparesSpec.pre enc Tryz.prog Tryz.f9 [] false w args ∧ laidMetH Tryz.prog laid3 w) ∧ sizedMet enc Tryz.prog Tryz.f9 (OpenSpec.ofChange Rows.coreComparesSpec) false w args) (Rows.coreComparesSpec.post enc Tryz.prog Tryz.f9 false true false false) := by
  refine liftS (C := Tryz.checked) own started (by kernel_rfl) Tryz.func9
    (ChangeSpec.witness_shaped (enc := enc) (C := Tryz.checked) (os := os) (X := fun w _ => laidMetH Tryz.prog laid3 w) false (World.laidAll Tryz.prog os laid3) #[.slice none 0 0, .int .i64 0, .int .i64 0] 8 (World.laidAll_os _ _ _) (World.shaped_of_ZipB (by kernel_rfl) (by kernel_rfl)) (by kernel_rfl) (by kernel_rfl) (by kernel_rfl) (door_met os _))
    laidOut rfl (t := _) rfl (by kernel_rfl) (by kernel_rfl) ?_ walk
  intro ds hd
  match ds, hd with
  | [d0, d1, d2], _ => rfl

theorem over : Rows.coreComparesRow.holds Tryz.pinned (OpenSpec.ofChange Rows.coreComparesSpec) :=
  OpenClaim.holds_of_wide 9 Tryz.f9 rfl rfl rfl rfl rfl rfl rfl ⟨rfl, rfl, rfl, rfl, rfl⟩ rfl rfl rfl rfl rfl (by kernel_rfl) Tryz.func9 (by kernel_rfl)
    (of_decide_eq_true (by kernel_rfl)) (by unfold Func.isWrapper; first | (rw [if_pos (by decide +kernel)]; kernel_rfl) | (rw [if_neg (by decide +kernel)]; exact ⟨rfl, rfl⟩))
    (fun os started H enc _ => lifted os started H enc)

theorem proved : Rows.CoreComparesCardSaid :=
  Claim7.holds_tied_plain_at .later [] [.data, .data, .data] true (true, "8c46145c91ca01cbbdc693332ca60911ae9d66bc5eabc04f89f5f042d1271d1b") true
    over (fun _ h => by cases h) (by kernel_rfl) (fun _ h => by cases h) coreCompares_row_tie rfl ⟨rfl, rfl⟩ (by kernel_rfl) rfl
    (fun f fn hf hfn => by
      obtain rfl : f = 9 := Option.some.inj ((show Tryz.prog.funcNamed "cabochon/cabochonlaw21.CoreCompares" = some 9 by kernel_rfl).symm.trans hf) |>.symm
      obtain rfl : fn = Tryz.f9 := (Option.some.inj (Tryz.func9.symm.trans hfn)).symm
      exact ⟨by kernel_rfl, fun j t ht => by
        have hm : t ∈ Tryz.f9.params.toList := by simpa using Array.mem_of_getElem? ht
        have hall : (Tryz.f9.params.toList.all fun u => !Tryz.prog.wantsStandIn u) = true := by kernel_rfl
        exact (show Tryz.prog.wantsStandIn t = false by simpa using List.all_eq_true.1 hall t hm)⟩)
    (by kernel_rfl)
#print axioms proved
end CoreCompares
end Go.Proofs.YtahjbnfbilkbcaaGreatDoor
