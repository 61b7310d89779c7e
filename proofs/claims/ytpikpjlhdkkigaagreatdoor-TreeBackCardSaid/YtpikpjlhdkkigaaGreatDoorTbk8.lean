/-
  Lemmas (G5 G6 G7 G8).
-/
import Derived.Test.YtpikpjlhdkkigaaGreatDoorTbk7
set_option linter.unusedVariables false
set_option linter.unusedSimpArgs false
namespace Go.Proofs.YtpikpjlhdkkigaaGreatDoor
open Go.AX Go.RowKit Go.Tree Go.Scan
set_option maxRecDepth 20000
def locL : NL := [[120], [121], [122], [95], [108, 111, 110, 103, 95, 110, 97, 109, 101, 49]]
theorem locL_nm : ∀ x ∈ locL, x ∈ nmL := by decide +kernel
theorem locals_c : SpecH Tryz.prog 32 (pvs []) [] (RetG (ι := Nat) (fun _ => True) (fun b => .slice (some ⟨b, 0, none⟩) 5 5) fun b => [.app 9 1 (strsC locL) (some ⟨b, 0, none⟩) 5 5]) := by
 refine ownC hm Tryz.func32 (by kernel_rfl) rfl rfl (fun _ _ => okHB_eq rfl) (fun _ _ => Nat.le_of_ble_eq_true rfl) ?_
 refine wXR ?_
 refine RwN.known (strsC locL) rfl fun rb => ?_
 refine wXR ?_
 exact ⟨rb, trivial, rfl, ⟨wkE_refl _, wkH_nil _⟩⟩
def lastN : Int → List TP → Int
 | k, [] => k
 | _, p :: ps => lastN p.n ps
def usL : NL → List TP → NL
 | us, [] => us
 | us, p :: ps => usL (if p.name = [] then us else p.name :: us) ps
theorem parOk_snoc {t : TP} (h3 : t.n ≤ 3) : ∀ (l : List TP) (k : Int) (us : NL), parOk k us l → lastN k l ≤ t.n → ¬ (t.n = lastN k l ∧ 2 ≤ lastN k l) → t.name ∉ usL us l → parOk k us (l ++ [t])
 | [], _, _, _, h1, h2, h4 => ⟨h1, h3, h2, h4, trivial⟩
 | _ :: ps, _, _, ⟨a1, a2, a3, a4, a5⟩, h1, h2, h4 => ⟨a1, a2, a3, a4, parOk_snoc h3 ps _ _ a5 h1 h2 h4⟩
theorem lastN_snoc (t : TP) : ∀ (l : List TP) (k : Int), lastN k (l ++ [t]) = t.n
 | [], _ => rfl
 | p :: ps, _ => lastN_snoc t ps p.n
theorem usL_snoc (t : TP) : ∀ (l : List TP) (us : NL), usL us (l ++ [t]) = if t.name = [] then usL us l else t.name :: usL us l
 | [], _ => rfl
 | p :: ps, us => by rw [List.cons_append, usL, usL_snoc t ps]; rfl
theorem lastN_get {l : List TP} (h : l ≠ []) (k : Int) : ∃ t, l[l.length - 1]? = some t ∧ lastN k l = t.n := by
 obtain ⟨m, t, rfl⟩ := snoc_of h
 exact ⟨t, by simp, lastN_snoc t m k⟩
structure PmI where
 l : List TP
 ob : Option Nat
 cap : Nat
 u : NL
 ub : Option Nat
 uc : Nat
 k : KD
 p : Nat
 z : Int
 F : World → Prop
structure PmInv (g : GD) (A : World → Prop) (k : KD) (p d : Nat) (κ : Int) (S : Nat → Nat) (i : PmI) : Prop where
 v : ∀ t ∈ i.l, V .par t
 pk : parOk 0 [] i.l
 ln : lastN 0 i.l ≤ κ
 us : ∀ x ∈ usL [] i.l, x ∈ i.u
 ul : KL i.u
 gs : Gs k.l i.l i.k.l (S i.p) d
 kd : KdOk i.k
 le : p ≤ i.p ∧ i.p ≤ g.l.length
 nil : i.ob = none → i.l = []
 cap : i.l.length ≤ i.cap
 unil : i.ub = none → i.u = []
 ucap : i.u.length ≤ i.uc
 len : i.l.length ≤ 100
 f : ∀ w, i.F w → A w ∧ (∀ t ∈ i.l, TreeF w t) ∧ KnF i.k w
abbrev rowW (l : NL) (ob : Option Nat) (cap : Nat) : Ent := .app 9 1 (strsC l) (at0 ob) l.length cap
def ParamsC (D : Nat) : Prop := ∀ (g : GD) (_ : GOk g) (k : KD) (_ : KdOk k) (p : Nat) (z : Int) (_ : p ≤ g.l.length) (A : World → Prop) (_ : ∀ w, A w → NumF g w ∧ KnF k w),
 SpecH Tryz.prog 55 (pvs [gP g, .int .i64 (D : Int), knV k]) [.fact A, grE g p z]
  (RetG (ι := PmI) (PmInv g A k p (4 * D) 4 fun q => 8 * (q - p)) (fun i => .tuple #[.slice (at0 i.ob) i.l.length i.cap, knV i.k]) fun i => [.fact i.F, grE g i.p i.z, rowN4 i.l i.ob i.cap])
theorem PmInv.start {g : GD} {A : World → Prop} {k : KD} (kok : KdOk k) {p d : Nat} {z : Int} (hp : p ≤ g.l.length) (hA : ∀ w, A w → KnF k w) : PmInv g A k p d 0 (fun q => 8 * (q - p)) ⟨[], none, 0, [], none, 0, k, p, z, A⟩ where
 v := fun _ h => by cases h
 pk := trivial
 ln := Int.le_refl _
 us := fun _ h => by cases h
 ul := KL.nil
 gs := (Gs.nil _ _).le (Nat.zero_le _) (Nat.le_refl _)
 kd := kok
 le := ⟨Nat.le_refl _, hp⟩
 nil := fun _ => rfl
 cap := Nat.le_refl _
 unil := fun _ => rfl
 ucap := Nat.le_refl _
 len := Nat.zero_le _
 f := fun w hw => ⟨hw, (fun _ h => by cases h), hA w hw⟩
theorem PmInv.up {g : GD} {A : World → Prop} {k : KD} {p d : Nat} {κ κ2 : Int} {S : Nat → Nat} {i : PmI} (h : PmInv g A k p d κ S i) (hk : κ ≤ κ2) : PmInv g A k p d κ2 S i :=
 ⟨h.v, h.pk, Int.le_trans h.ln hk, h.us, h.ul, h.gs, h.kd, h.le, h.nil, h.cap, h.unil, h.ucap, h.len, h.f⟩
theorem PmInv.keep {g : GD} {A : World → Prop} {k : KD} {p d : Nat} {κ : Int} {S S2 : Nat → Nat} {l : List TP} {ob : Option Nat} {cap : Nat} {u : NL} {ub : Option Nat} {uc : Nat} {k1 : KD} {p1 p2 : Nat} {z z2 : Int} {F F2 : World → Prop} (h : PmInv g A k p d κ S ⟨l, ob, cap, u, ub, uc, k1, p1, z, F⟩)
  (hl : p1 ≤ p2 ∧ p2 ≤ g.l.length) (hS : S p1 ≤ S2 p2) (hF : ∀ w, F2 w → F w) : PmInv g A k p d κ S2 ⟨l, ob, cap, u, ub, uc, k1, p2, z2, F2⟩ :=
 ⟨h.v, h.pk, h.ln, h.us, h.ul, h.gs.le hS (Nat.le_refl _), h.kd, ⟨Nat.le_trans h.le.1 hl.1, hl.2⟩, h.nil, h.cap, h.unil, h.ucap, h.len, fun w hw => h.f w (hF w hw)⟩
theorem PmInv.snoc {g : GD} {A : World → Prop} {k : KD} {p d : Nat} {κ : Int} {S S2 : Nat → Nat} {l : List TP} {ob : Option Nat} {cap : Nat} {u : NL} {ub : Option Nat} {uc : Nat} {k1 : KD} {p1 p2 : Nat} {z z2 : Int} {F F2 : World → Prop} (h : PmInv g A k p d κ S ⟨l, ob, cap, u, ub, uc, k1, p1, z, F⟩)
  {t : TP} (hv : V .par t) (ht : t.n = κ) (h3 : κ ≤ 3) (hgo : ¬ (κ = lastN 0 l ∧ 2 ≤ lastN 0 l)) {u2 : NL} {ub2 : Option Nat} {uc2 : Nat} (hu : KL u2) (hs : ∀ x ∈ u, x ∈ u2) (hx : t.name ∉ u) (hx2 : t.name ≠ [] → t.name ∈ u2) (hun : ub2 = none → u2 = []) (huc : u2.length ≤ uc2)
  {k2 : KD} {s : Nat} (hg : Gn k1.l t k2.l s d) (hk : KdOk k2) (hl : p1 ≤ p2 ∧ p2 ≤ g.l.length) (hS : S p1 + s ≤ S2 p2) (hf : ∀ w, F2 w → F w ∧ TreeF w t ∧ KnF k2 w) {b c : Nat} (hc : l.length + 1 ≤ c) (hlen : l.length + 1 ≤ 100) : PmInv g A k p d κ S2 ⟨l ++ [t], some b, c, u2, ub2, uc2, k2, p2, z2, F2⟩ where
 v := G_v h.v hv
 pk := parOk_snoc (by omega) l 0 [] h.pk (by rw [ht]; exact h.ln) (by rw [ht]; exact hgo) fun e => hx (h.us _ e)
 ln := by show lastN 0 (l ++ [t]) ≤ κ; rw [lastN_snoc, ht]; exact Int.le_refl _
 us := fun y hy => by
  have hy : y ∈ usL [] (l ++ [t]) := hy
  rw [usL_snoc] at hy
  split at hy
  ·exact hs y (h.us y hy)
  ·rename_i hne
   rcases List.mem_cons.1 hy with rfl | hy
   ·exact hx2 hne
   ·exact hs y (h.us y hy)
 ul := hu
 gs := (h.gs.snoc hg).le hS (Nat.le_refl _)
 kd := hk
 le := ⟨Nat.le_trans h.le.1 hl.1, hl.2⟩
 nil := fun h => by cases h
 cap := by show (l ++ [t]).length ≤ c; rw [List.length_append]; exact hc
 unil := hun
 ucap := huc
 len := by show (l ++ [t]).length ≤ 100; rw [List.length_append]; exact hlen
 f := fun w hw => by
  obtain ⟨h1, h2, h3⟩ := hf w hw
  obtain ⟨h4, h5, _⟩ := h.f w h1
  exact ⟨h4, allV h5 (allC h2 allN), h3⟩
theorem seal3 (F0 : World → Prop) (g : GD) (p : Nat) (z : Int) {T U : TypeId} {sz n cap sz2 n2 cap2 : Nat} {xs xs2 : List Value} {a a2 : Option Addr} (R : List Ent) : TurnS (.fact F0 :: grE g p z :: .app T sz xs a n cap :: .app U sz2 xs2 a2 n2 cap2 :: R) (.fact (fun w => F0 w ∧ Facts R w) :: grE g p z :: .app T sz xs a n cap :: .app U sz2 xs2 a2 n2 cap2 :: R.map fun _ => .dead) := by
 refine turnS ⟨.inr (.inr ⟨_, rfl, fun w hw => ⟨hw.1, facts_rest R _ rfl hw.2⟩⟩), .inr (.inl rfl), .inr (.inl rfl), .inr (.inl rfl), sealed_map _ R⟩
set_option maxHeartbeats 4000000 in
theorem gparams_c (D : Nat) (hD : D ≤ 100) (ih : ∀ E, E ≤ D → ExprC E) : ParamsC (D + 1) := by
 intro g ok k kok p z hp A hA
 refine ownT hm Tryz.func55 (by kernel_rfl) rfl rfl (fun _ _ => okHB_eq rfl) (fun _ _ => Nat.le_of_ble_eq_true rfl) ?_
 have hlen := ok.len
 refine wX ?_
 refine LoopN.introS (Nat × PmI) (fun i => i.1 ≤ 4 ∧ i.2.l.length ≤ 2 * i.1 ∧ PmInv g A k p (4 * (D + 1)) (i.1 : Int) (fun q => 8 * (q - p)) i.2)
  (fun ⟨κ, l, ob, cap, u, ub, uc, k', _, _, _⟩ => mkS Tryz.f55.ntmps 0 [(0, .c (.v (gP g))), (1, .c (.v (.int .i64 ((D + 1 : Nat) : Int)))), (2, .c (.v (knV k'))), (6, .c (.v (.slice none 0 0))), (7, .c (.v (.slice none 0 0))), (8, .c (.v (.slice (at0 ob) l.length cap))), (9, .c (.v (.slice (at0 ub) u.length uc))), (10, .c (.v (.int .i64 (κ : Int))))])
  (fun ⟨_, l, ob, cap, u, ub, uc, _, q, z', F⟩ => [.fact F, grE g q z', rowN4 l ob cap, rowW u ub uc])
  (fun i => 4 - i.1) [.app ndT 4 [] none 0 0, .app 9 1 [] none 0 0] rfl (fun _ => rfl) (fun _ => rfl) (fun _ _ => okHB_eq rfl)
  ⟨⟨0, ⟨[], none, 0, [], none, 0, k, p, z, A⟩⟩, ⟨Nat.zero_le _, Nat.zero_le _, .start kok hp fun w hw => (hA w hw).2⟩, ?_, _, turn_refl _, ⟨wkE_refl _, wkE_refl _, wkE_refl _, wkE_refl _, wkH_nil _⟩⟩ ?_
 ·exact wKK
 rintro ⟨κ, l, ob, cap, u, ub, uc, k', q, z', F⟩ ⟨h4, hl2, hi⟩
 have h4 : κ ≤ 4 := h4
 have hl2 : l.length ≤ 2 * κ := hl2
 have hle : p ≤ q ∧ q ≤ g.l.length := hi.le
 refine wX ?_
 refine brd_dec (fun h5 => ?_) (fun h5 => ?_)
 ·refine wX ?_
  refine callG (pick_c g ok q z' 3 ⟨by decide, by decide⟩ hle.2 F (fun w hw => (hA w (hi.f w hw).1).1)) [0, 1] rfl ⟨rfl, rfl, trivial⟩ rfl fun i hi2 => ?_
  obtain ⟨m, p1⟩ := i
  obtain ⟨g1, g2, g3, g4⟩ := hi2
  have g1 : m < 3 := g1
  have g2 : q ≤ p1 := g2
  have g3 : p1 ≤ g.l.length := g3
  have g4 : m ≠ 0 → q < p1 := g4
  have g5 : 2 * m ≤ 8 * (p1 - q) := by
   by_cases h : m = 0
   ·omega
   ·have := g4 h; omega
  refine wX ?_
  obtain ⟨L0, hL0⟩ : ∃ n, n = l.length := ⟨_, rfl⟩
  refine LoopN.introS (Nat × PmI) (fun i => i.1 ≤ m ∧ i.2.l.length + i.1 ≤ L0 + m ∧ p1 ≤ i.2.p ∧ PmInv g A k p (4 * (D + 1)) (κ : Int) (fun r => 8 * (q - p) + 2 * (m - i.1) + 8 * (r - p1)) i.2)
   (fun ⟨i, l, ob, cap, u, ub, uc, k', _, _, _⟩ => mkS Tryz.f55.ntmps 0 [(0, .c (.v (gP g))), (1, .c (.v (.int .i64 ((D + 1 : Nat) : Int)))), (2, .c (.v (knV k'))), (6, .c (.v (.slice none 0 0))), (7, .c (.v (.slice none 0 0))), (8, .c (.v (.slice (at0 ob) l.length cap))), (9, .c (.v (.slice (at0 ub) u.length uc))), (10, .c (.v (.int .i64 (κ : Int)))), (11, .c (.v (.int .i64 (i : Int))))])
   (fun ⟨_, l, ob, cap, u, ub, uc, _, q, z', F⟩ => [.fact F, grE g q z', rowN4 l ob cap, rowW u ub uc])
   (fun i => i.1) [] rfl (fun _ => rfl) (fun _ => rfl) (fun _ _ => okHB_eq rfl)
   ⟨⟨m, ⟨l, ob, cap, u, ub, uc, k', p1, z', F⟩⟩, ⟨Nat.le_refl _, by show l.length + m ≤ L0 + m; omega, Nat.le_refl _, hi.v, hi.pk, hi.ln, hi.us, hi.ul, hi.gs.le (by show 8 * (q - p) ≤ 8 * (q - p) + 2 * (m - m) + 8 * (p1 - p1); omega) (Nat.le_refl _), hi.kd, ⟨Nat.le_trans hle.1 g2, g3⟩, hi.nil, hi.cap, hi.unil, hi.ucap, hi.len, hi.f⟩, ?_, _, turn_refl _, ⟨wkE_refl _, wkE_refl _, wkE_refl _, wkE_refl _, wkH_nil _⟩⟩ ?_
  ·exact wKK
  have hL1 : L0 ≤ 8 := by omega
  have hL2 : L0 ≤ 2 * κ := by omega
  have hpq : p ≤ q := hle.1
  clear hi hle hl2
  rintro ⟨i, l, ob, cap, u, ub, uc, k', q0, z', F⟩ ⟨hm1, hm2, hm3, hi⟩
  have hm1 : i ≤ m := hm1
  have hm2 : l.length + i ≤ L0 + m := hm2
  have hm3 : p1 ≤ q0 := hm3
  have hle : p ≤ q0 ∧ q0 ≤ g.l.length := hi.le
  have hul : u.length ≤ 8 := hi.ul.len
  have hll : l.length ≤ 100 := hi.len
  refine wX ?_
  refine brd_dec (fun h6 => ?_) (fun h6 => ?_)
  ·obtain ⟨i, rfl⟩ : ∃ j, i = j + 1 := ⟨i - 1, by omega⟩
   refine wXR ?_
   refine callG locals_c [] rfl trivial rfl fun rb _ => ?_
   refine wXR ?_
   refine SpecH.shut 4 rfl ?_
   refine callG (text_c g ok q0 z' hle.2 F _ (fun w hw => (hA w (hi.f w hw).1).1) (some ⟨rb, 0, none⟩) locL _ ⟨by decide, by decide⟩ rfl (fun w hw => hw)) [0, 1, 4] rfl ⟨rfl, rfl, rfl, trivial⟩ rfl fun i hi2 => ?_
   obtain ⟨x, q1⟩ := i
   obtain ⟨hx, hq2, hq3⟩ := hi2
   have hx : x ∈ locL := hx
   have hq2 : q0 ≤ q1 := hq2
   have hq3 : q1 ≤ g.l.length := hq3
   have hxn := locL_nm x hx
   have hxe : ((bs x).data.toList == ((⟨#[]⟩ : ByteArray)).data.toList) = false := by
    rw [bs_list]
    have := nmL_ne hxn
    cases x with
    | nil => exact absurd rfl this
    | cons c r => rfl
   have hmin : minI (IntKind.i64.wrap (((D + 1 : Nat) : Int) - 1)) 1 = ((min D 1 : Nat) : Int) := by rw [low D hD]; unfold minI; split <;> omega
   rcases (by omega : κ = 0 ∨ κ = 1 ∨ κ = 2 ∨ κ = 3) with rfl | rfl | rfl | rfl
   ·refine wX ?_
    refine brd_intro (fun h7 => ?_) (fun h7 => absurd (h7.symm.trans (congrArg (!·) hxe)) (by decide))
    refine wX ?_
    refine call1 (RHas_c (at0 ub) u uc x (fun h => by cases hb : ub with | none => exact absurd (hi.unil hb) h | some b => rfl) (by omega) _ (fun w hw => by have h := hw.2.2.2.1; rw [Nat.mul_one] at h; exact h)) ?_
    by_cases hxu : x ∈ u
    ·rw [decide_eq_true hxu]
     refine wX ?_
     refine ⟨⟨i, ⟨l, ob, cap, u, ub, uc, k', q1, z', _⟩⟩, ⟨by show i ≤ m; omega, by show l.length + i ≤ L0 + m; omega, by show p1 ≤ q1; omega, hi.keep (p2 := q1) ⟨by omega, by omega⟩ (by show 8 * (q - p) + 2 * (m - (i + 1)) + 8 * (q0 - p1) ≤ 8 * (q - p) + 2 * (m - i) + 8 * (q1 - p1); omega) fun w hw => hw.1⟩, Nat.lt_succ_self _, ?_, _, seal3 _ _ _ _ _, ⟨wkE_refl _, wkE_refl _, wkE_refl _, wkE_refl _, wkH_nil _⟩⟩
     exact wKK
    ·rw [decide_eq_false hxu]
     refine wX ?_
     refine brd_intro (fun h7 => ?_) (fun h7 => absurd (h7.symm.trans (congrArg (!·) hxe)) (by decide))
     refine wX ?_
     refine Nd.mk ⟨Nat.le_refl 1, rfl, rfl⟩ ?_
     (conv => whnf)
     refine AppN.grow 3 (strsC u) [.string (bs x)] rfl rfl ⟨Nat.le_refl 1, ⟨by show (u.length + 1) * 16 ≤ _; omega, by omega⟩, by decide⟩ fun ub2 uc2 g1 g2 => ?_
     refine wX ?_
     refine callG (declared_c g k' hi.kd x hxn q1 z' F (fun w hw => (hi.f w hw).2.2)) [0, 1] rfl ⟨rfl, rfl, trivial⟩ rfl fun j hj => ?_
     obtain ⟨k2, F2⟩ := j
     obtain ⟨hk2, hka, hF2⟩ := hj
     have hk2 : KdOk k2 := hk2
     have hka : k2.l = kadd k'.l x := hka
     have hF2 : ∀ w, F2 w → F w ∧ KnF k2 w := hF2
     have hg : Gn k'.l ⟨54, x, 0, none, [], 0⟩ k2.l 1 (4 * (D + 1)) := by rw [hka]; exact (Gn.par (d := 0) hxn (.nil _ _) (by decide) (Gs.nil _ _)).le (Nat.le_refl _) (by omega)
     refine wX ?_
     try refine Nd.mk ⟨Nat.le_refl 1, rfl, rfl⟩ ?_
     (conv => whnf)
     refine AppN.grow 2 (nodesC l) (nodeC (⟨54, x, 0, none, [], 0⟩ : TP)) rfl rfl ⟨Nat.le_refl 1, ⟨by show (l.length + 1) * 56 ≤ _; omega, by show l.length + 1 < _; omega⟩, by decide⟩ fun b' c' g1' g2' => ?_
     refine wX ?_
     have e1 : nodesC l ++ nodeC (⟨54, x, 0, none, [], 0⟩ : TP) = nodesC (l ++ [(⟨54, x, 0, none, [], 0⟩ : TP)]) := by rw [nodesC_one, nodesC_app]
     have e2 : l.length + 1 = (l ++ [(⟨54, x, 0, none, [], 0⟩ : TP)]).length := by simp
     have e3 : strsC u ++ [.string (bs x)] = strsC (u ++ [x]) := by simp [strsC]
     have e4 : u.length + 1 = (u ++ [x]).length := by simp
     have hku : KL (u ++ [x]) := by have h := hi.ul.add hxn; rw [kadd, if_neg hxu] at h; exact h
     rw [e1, e2, e3, e4]
     refine ⟨⟨i, ⟨l ++ [(⟨54, x, 0, none, [], 0⟩ : TP)], some b', c', u ++ [x], some ub2, uc2, k2, q1, _, _⟩⟩, ⟨by show i ≤ m; omega, by show (l ++ [(⟨54, x, 0, none, [], 0⟩ : TP)]).length + i ≤ L0 + m; rw [← e2]; omega, by show p1 ≤ q1; omega, hi.snoc (κ := 0) (s := 1) (.parn (nmL_lo x hxn) (.inl rfl)) rfl (by decide) (by omega) hku (fun y hy => List.mem_append_left _ hy) hxu (fun _ => List.mem_append_right _ (List.mem_singleton.2 rfl)) (fun h => by cases h) (by rw [← e4]; exact g1) hg (by assumption) ⟨by omega, by omega⟩ (by show 8 * (q - p) + 2 * (m - (i + 1)) + 8 * (q0 - p1) + _ ≤ 8 * (q - p) + 2 * (m - i) + 8 * (q1 - p1); omega) (fun w hw => ⟨(hF2 w hw.1).1, f0 hg.tk rfl, (hF2 w hw.1).2⟩) g1' (by omega)⟩, Nat.lt_succ_self _, ?_, _, seal3 _ _ _ _ _, ⟨wkE_refl _, wkE_refl _, wkE_refl _, wkE_refl _, wkH_nil _⟩⟩
     exact wKK
   ·refine wX ?_
    refine brd_intro (fun h7 => ?_) (fun h7 => absurd (h7.symm.trans (congrArg (!·) hxe)) (by decide))
    refine wX ?_
    refine call1 (RHas_c (at0 ub) u uc x (fun h => by cases hb : ub with | none => exact absurd (hi.unil hb) h | some b => rfl) (by omega) _ (fun w hw => by have h := hw.2.2.2.1; rw [Nat.mul_one] at h; exact h)) ?_
    by_cases hxu : x ∈ u
    ·rw [decide_eq_true hxu]
     refine wX ?_
     refine ⟨⟨i, ⟨l, ob, cap, u, ub, uc, k', q1, z', _⟩⟩, ⟨by show i ≤ m; omega, by show l.length + i ≤ L0 + m; omega, by show p1 ≤ q1; omega, hi.keep (p2 := q1) ⟨by omega, by omega⟩ (by show 8 * (q - p) + 2 * (m - (i + 1)) + 8 * (q0 - p1) ≤ 8 * (q - p) + 2 * (m - i) + 8 * (q1 - p1); omega) fun w hw => hw.1⟩, Nat.lt_succ_self _, ?_, _, seal3 _ _ _ _ _, ⟨wkE_refl _, wkE_refl _, wkE_refl _, wkE_refl _, wkH_nil _⟩⟩
     exact wKK
    ·rw [decide_eq_false hxu]
     refine wX ?_
     refine brd_intro (fun h7 => ?_) (fun h7 => absurd (h7.symm.trans (congrArg (!·) hxe)) (by decide))
     refine wX ?_
     refine Nd.mk ⟨Nat.le_refl 1, rfl, rfl⟩ ?_
     (conv => whnf)
     refine AppN.grow 3 (strsC u) [.string (bs x)] rfl rfl ⟨Nat.le_refl 1, ⟨by show (u.length + 1) * 16 ≤ _; omega, by omega⟩, by decide⟩ fun ub2 uc2 g1 g2 => ?_
     refine wX ?_
     refine callG (declared_c g k' hi.kd x hxn q1 z' F (fun w hw => (hi.f w hw).2.2)) [0, 1] rfl ⟨rfl, rfl, trivial⟩ rfl fun j hj => ?_
     obtain ⟨k2, F2⟩ := j
     obtain ⟨hk2, hka, hF2⟩ := hj
     have hk2 : KdOk k2 := hk2
     have hka : k2.l = kadd k'.l x := hka
     have hF2 : ∀ w, F2 w → F w ∧ KnF k2 w := hF2
     refine wX ?_
     refine SpecH.args (args' := pvs [gP g, .int .i64 ((min D 1 : Nat) : Int), knV k2]) (by show pvs [gP g, .int .i64 (minI (IntKind.i64.wrap (((D + 1 : Nat) : Int) - 1)) 1), knV k2] = _; rw [hmin]) ?_
     refine callG (ih (min D 1) (by omega) g ok k2 hk2 q1 z' hq3 F2 (fun w hw => ⟨(hA w (hi.f w (hF2 w hw).1).1).1, (hF2 w hw).2⟩)) [0, 1] rfl ⟨rfl, rfl, trivial⟩ rfl fun j hj => ?_
     have hj2 := hj
     obtain ⟨t, k3, q2, z2, F3⟩ := j
     have hq4 : q1 ≤ q2 ∧ q2 ≤ g.l.length := hj2.le
     have hk3 : KdOk k3 := hj2.kd
     have htv : V .ex t := hj2.v
     have htg : Gn k2.l t k3.l (1 + 8 * (q2 - q1)) (4 * min D 1 + 3) := hj2.gn
     have htf : ∀ w, F3 w → F2 w ∧ TreeF w t ∧ KnF k3 w := hj2.f
     refine wXR ?_
     refine RwN.known (nodeC t) rfl fun nb => ?_
     have hg : Gn k'.l ⟨54, x, 1, some ⟨nb, 0, none⟩, [t], 1⟩ k3.l (2 + 8 * (q2 - q1)) (4 * (D + 1)) := by
      have h := htg
      rw [hka] at h
      exact (Gn.par (s := 1 + 8 * (q2 - q1)) (d := 4 * min D 1 + 3) hxn (.some (Nat.le_refl 1)) (by omega) h.s).le (by omega) (by omega)
     refine wX ?_
     try refine Nd.mk ⟨Nat.le_refl 1, rfl, rfl⟩ ?_
     (conv => whnf)
     refine AppN.grow 2 (nodesC l) (nodeC (⟨54, x, 1, some ⟨nb, 0, none⟩, [t], 1⟩ : TP)) rfl rfl ⟨Nat.le_refl 1, ⟨by show (l.length + 1) * 56 ≤ _; omega, by show l.length + 1 < _; omega⟩, by decide⟩ fun b' c' g1' g2' => ?_
     refine wX ?_
     have e1 : nodesC l ++ nodeC (⟨54, x, 1, some ⟨nb, 0, none⟩, [t], 1⟩ : TP) = nodesC (l ++ [(⟨54, x, 1, some ⟨nb, 0, none⟩, [t], 1⟩ : TP)]) := by rw [nodesC_one, nodesC_app]
     have e2 : l.length + 1 = (l ++ [(⟨54, x, 1, some ⟨nb, 0, none⟩, [t], 1⟩ : TP)]).length := by simp
     have e3 : strsC u ++ [.string (bs x)] = strsC (u ++ [x]) := by simp [strsC]
     have e4 : u.length + 1 = (u ++ [x]).length := by simp
     have hku : KL (u ++ [x]) := by have h := hi.ul.add hxn; rw [kadd, if_neg hxu] at h; exact h
     rw [e1, e2, e3, e4]
     refine ⟨⟨i, ⟨l ++ [(⟨54, x, 1, some ⟨nb, 0, none⟩, [t], 1⟩ : TP)], some b', c', u ++ [x], some ub2, uc2, k3, q2, _, _⟩⟩, ⟨by show i ≤ m; omega, by show (l ++ [(⟨54, x, 1, some ⟨nb, 0, none⟩, [t], 1⟩ : TP)]).length + i ≤ L0 + m; rw [← e2]; omega, by show p1 ≤ q2; omega, hi.snoc (κ := 1) (s := (2 + 8 * (q2 - q1))) (.par1 (nmL_lo x hxn) htv) rfl (by decide) (by omega) hku (fun y hy => List.mem_append_left _ hy) hxu (fun _ => List.mem_append_right _ (List.mem_singleton.2 rfl)) (fun h => by cases h) (by rw [← e4]; exact g1) hg (by assumption) ⟨by omega, by omega⟩ (by show 8 * (q - p) + 2 * (m - (i + 1)) + 8 * (q0 - p1) + _ ≤ 8 * (q - p) + 2 * (m - i) + 8 * (q2 - p1); omega) (fun w hw => ⟨(hF2 w (htf w hw.1).1).1, treeF hg.tk hw.2.2.1 rfl (one_mem (htf w hw.1).2.1), (htf w hw.1).2.2⟩) g1' (by omega)⟩, Nat.lt_succ_self _, ?_, _, seal3 _ _ _ _ _, ⟨wkE_refl _, wkE_refl _, wkE_refl _, wkE_refl _, wkH_nil _⟩⟩
     exact wKK
   ·have hpk : 1 ≤ 4 := by decide
    refine wX ?_
    refine callG (pick_c g ok q1 z' 4 ⟨by decide, by decide⟩ hq3 F (fun w hw => (hA w (hi.f w hw).1).1)) [0, 1] rfl ⟨rfl, rfl, trivial⟩ rfl fun j hj => ?_
    obtain ⟨y, q2⟩ := j
    obtain ⟨_, j2, j3, _⟩ := hj
    have j2 : q1 ≤ q2 := j2
    have j3 : q2 ≤ g.l.length := j3
    refine wX ?_
    refine brd_eq (fun hy => ?_) (fun hy => ?_)
    ·refine wX ?_
     refine wX ?_
     refine brd_dec (fun h8 => ?_) (fun h8 => ?_)
     ·have hl0 : l ≠ [] := fun e => by rw [e] at h8; exact absurd h8 (by decide)
      have hl1 : 0 < l.length := List.length_pos_iff.2 hl0
      obtain ⟨tl, htl, hln⟩ := lastN_get hl0 0
      have hwl : IntKind.i64.wrap ((l.length : Int) - 1) = ((l.length - 1 : Nat) : Int) := by rw [wrap_i64 (by omega)]; omega
      refine wX ?_
      rw [hwl]
      refine Nd.mk ⟨isT (at0_nil hi.nil) htl, by omega, by omega⟩ ?_
      refine wX ?_
      refine LdN.fld (.int .i64 tl.n) rfl (fun w hw => hw.2.2.1) (by rw [Int.toNat_natCast]; exact nodesC_get l (l.length - 1) 2 (by decide) htl) ?_
      refine wX ?_
      refine brd_eq (fun h9 => ?_) (fun h9 => ?_)
      ·-- nothing was added; q2: where the numbers are
       refine wX ?_
       refine ⟨⟨i, ⟨l, ob, cap, u, ub, uc, k', q2, z', _⟩⟩, ⟨by show i ≤ m; omega, by show l.length + i ≤ L0 + m; omega, by show p1 ≤ q2; omega, hi.keep (p2 := q2) ⟨by omega, by omega⟩ (by show 8 * (q - p) + 2 * (m - (i + 1)) + 8 * (q0 - p1) ≤ 8 * (q - p) + 2 * (m - i) + 8 * (q2 - p1); omega) fun w hw => hw.1⟩, Nat.lt_succ_self _, ?_, _, seal3 _ _ _ _ _, ⟨wkE_refl _, wkE_refl _, wkE_refl _, wkE_refl _, wkH_nil _⟩⟩
       exact wKK
      ·have hgo : ¬ ((2 : Int) = lastN 0 l ∧ 2 ≤ lastN 0 l) := fun h => h9 (hln.symm.trans h.1.symm)
       refine wX ?_
       try refine Nd.mk ⟨Nat.le_refl 1, rfl, rfl⟩ ?_
       (conv => whnf)
       refine AppN.grow 2 (nodesC l) (nodeC (⟨54, [], 2, none, [], 0⟩ : TP)) rfl rfl ⟨Nat.le_refl 1, ⟨by show (l.length + 1) * 56 ≤ _; omega, by show l.length + 1 < _; omega⟩, by decide⟩ fun b' c' g1' g2' => ?_
       refine wX ?_
       have e1 : nodesC l ++ nodeC (⟨54, [], 2, none, [], 0⟩ : TP) = nodesC (l ++ [(⟨54, [], 2, none, [], 0⟩ : TP)]) := by rw [nodesC_one, nodesC_app]
       have e2 : l.length + 1 = (l ++ [(⟨54, [], 2, none, [], 0⟩ : TP)]).length := by simp
       have hg : Gn k'.l ⟨54, [], 2, none, [], 0⟩ k'.l 1 (4 * (D + 1)) := (Gn.none (d := 0) (.inl rfl)).le (Nat.le_refl _) (by omega)
       rw [e1, e2]
       refine ⟨⟨i, ⟨l ++ [(⟨54, [], 2, none, [], 0⟩ : TP)], some b', c', u, ub, uc, k', q2, _, _⟩⟩, ⟨by show i ≤ m; omega, by show (l ++ [(⟨54, [], 2, none, [], 0⟩ : TP)]).length + i ≤ L0 + m; rw [← e2]; omega, by show p1 ≤ q2; omega, hi.snoc (κ := 2) (s := 1) .par0 rfl (by decide) hgo hi.ul (fun y hy => hy) (fun h => nmL_ne (hi.ul.mem _ h) rfl) (fun h => absurd rfl h) hi.unil hi.ucap hg hi.kd ⟨by omega, by omega⟩ (by show 8 * (q - p) + 2 * (m - (i + 1)) + 8 * (q0 - p1) + _ ≤ 8 * (q - p) + 2 * (m - i) + 8 * (q2 - p1); omega) (fun w hw => ⟨hw.1, f0 hg.tk rfl, (hi.f w hw.1).2.2⟩) g1' (by omega)⟩, Nat.lt_succ_self _, ?_, _, seal3 _ _ _ _ _, ⟨wkE_refl _, wkE_refl _, wkE_refl _, wkE_refl _, wkH_nil _⟩⟩
       exact wKK
     ·have hgo : ¬ ((2 : Int) = lastN 0 l ∧ 2 ≤ lastN 0 l) := fun h => by
       have : l = [] := List.length_eq_zero_iff.1 (by omega)
       rw [this] at h
       exact absurd h.2 (by decide)
      refine wX ?_
      try refine Nd.mk ⟨Nat.le_refl 1, rfl, rfl⟩ ?_
      (conv => whnf)
      refine AppN.grow 2 (nodesC l) (nodeC (⟨54, [], 2, none, [], 0⟩ : TP)) rfl rfl ⟨Nat.le_refl 1, ⟨by show (l.length + 1) * 56 ≤ _; omega, by show l.length + 1 < _; omega⟩, by decide⟩ fun b' c' g1' g2' => ?_
      refine wX ?_
      have e1 : nodesC l ++ nodeC (⟨54, [], 2, none, [], 0⟩ : TP) = nodesC (l ++ [(⟨54, [], 2, none, [], 0⟩ : TP)]) := by rw [nodesC_one, nodesC_app]
      have e2 : l.length + 1 = (l ++ [(⟨54, [], 2, none, [], 0⟩ : TP)]).length := by simp
      have hg : Gn k'.l ⟨54, [], 2, none, [], 0⟩ k'.l 1 (4 * (D + 1)) := (Gn.none (d := 0) (.inl rfl)).le (Nat.le_refl _) (by omega)
      rw [e1, e2]
      refine ⟨⟨i, ⟨l ++ [(⟨54, [], 2, none, [], 0⟩ : TP)], some b', c', u, ub, uc, k', q2, _, _⟩⟩, ⟨by show i ≤ m; omega, by show (l ++ [(⟨54, [], 2, none, [], 0⟩ : TP)]).length + i ≤ L0 + m; rw [← e2]; omega, by show p1 ≤ q2; omega, hi.snoc (κ := 2) (s := 1) .par0 rfl (by decide) hgo hi.ul (fun y hy => hy) (fun h => nmL_ne (hi.ul.mem _ h) rfl) (fun h => absurd rfl h) hi.unil hi.ucap hg hi.kd ⟨by omega, by omega⟩ (by show 8 * (q - p) + 2 * (m - (i + 1)) + 8 * (q0 - p1) + _ ≤ 8 * (q - p) + 2 * (m - i) + 8 * (q2 - p1); omega) (fun w hw => ⟨hw.1, f0 hg.tk rfl, (hi.f w hw.1).2.2⟩) g1' (by omega)⟩, Nat.lt_succ_self _, ?_, _, seal3 _ _ _ _ _, ⟨wkE_refl _, wkE_refl _, wkE_refl _, wkE_refl _, wkH_nil _⟩⟩
      exact wKK
    ·refine wX ?_
     refine brd_intro (fun h7 => ?_) (fun h7 => absurd (h7.symm.trans (congrArg (!·) hxe)) (by decide))
     refine wX ?_
     refine call1 (RHas_c (at0 ub) u uc x (fun h => by cases hb : ub with | none => exact absurd (hi.unil hb) h | some b => rfl) (by omega) _ (fun w hw => by have h := hw.2.2.2.1; rw [Nat.mul_one] at h; exact h)) ?_
     by_cases hxu : x ∈ u
     ·rw [decide_eq_true hxu]
      refine wX ?_
      refine ⟨⟨i, ⟨l, ob, cap, u, ub, uc, k', q2, z', _⟩⟩, ⟨by show i ≤ m; omega, by show l.length + i ≤ L0 + m; omega, by show p1 ≤ q2; omega, hi.keep (p2 := q2) ⟨by omega, by omega⟩ (by show 8 * (q - p) + 2 * (m - (i + 1)) + 8 * (q0 - p1) ≤ 8 * (q - p) + 2 * (m - i) + 8 * (q2 - p1); omega) fun w hw => hw.1⟩, Nat.lt_succ_self _, ?_, _, seal3 _ _ _ _ _, ⟨wkE_refl _, wkE_refl _, wkE_refl _, wkE_refl _, wkH_nil _⟩⟩
      exact wKK
     ·rw [decide_eq_false hxu]
      refine wX ?_
      refine brd_dec (fun h8 => ?_) (fun h8 => ?_)
      ·have hl0 : l ≠ [] := fun e => by rw [e] at h8; exact absurd h8 (by decide)
       have hl1 : 0 < l.length := List.length_pos_iff.2 hl0
       obtain ⟨tl, htl, hln⟩ := lastN_get hl0 0
       have hwl : IntKind.i64.wrap ((l.length : Int) - 1) = ((l.length - 1 : Nat) : Int) := by rw [wrap_i64 (by omega)]; omega
       refine wX ?_
       rw [hwl]
       refine Nd.mk ⟨isT (at0_nil hi.nil) htl, by omega, by omega⟩ ?_
       refine wX ?_
       refine LdN.fld (.int .i64 tl.n) rfl (fun w hw => hw.2.2.1) (by rw [Int.toNat_natCast]; exact nodesC_get l (l.length - 1) 2 (by decide) htl) ?_
       refine wX ?_
       refine brd_eq (fun h9 => ?_) (fun h9 => ?_)
       ·-- nothing was added; q2: where the numbers are
        refine wX ?_
        refine ⟨⟨i, ⟨l, ob, cap, u, ub, uc, k', q2, z', _⟩⟩, ⟨by show i ≤ m; omega, by show l.length + i ≤ L0 + m; omega, by show p1 ≤ q2; omega, hi.keep (p2 := q2) ⟨by omega, by omega⟩ (by show 8 * (q - p) + 2 * (m - (i + 1)) + 8 * (q0 - p1) ≤ 8 * (q - p) + 2 * (m - i) + 8 * (q2 - p1); omega) fun w hw => hw.1⟩, Nat.lt_succ_self _, ?_, _, seal3 _ _ _ _ _, ⟨wkE_refl _, wkE_refl _, wkE_refl _, wkE_refl _, wkH_nil _⟩⟩
        exact wKK
       ·have hgo : ¬ ((2 : Int) = lastN 0 l ∧ 2 ≤ lastN 0 l) := fun h => h9 (hln.symm.trans h.1.symm)
        refine wX ?_
        refine brd_intro (fun h7 => ?_) (fun h7 => absurd (h7.symm.trans (congrArg (!·) hxe)) (by decide))
        refine wX ?_
        refine Nd.mk ⟨Nat.le_refl 1, rfl, rfl⟩ ?_
        (conv => whnf)
        refine AppN.grow 3 (strsC u) [.string (bs x)] rfl rfl ⟨Nat.le_refl 1, ⟨by show (u.length + 1) * 16 ≤ _; omega, by omega⟩, by decide⟩ fun ub2 uc2 g1 g2 => ?_
        refine wX ?_
        refine callG (declared_c g k' hi.kd x hxn q2 z' F (fun w hw => (hi.f w hw).2.2)) [0, 1] rfl ⟨rfl, rfl, trivial⟩ rfl fun j hj => ?_
        obtain ⟨k2, F2⟩ := j
        obtain ⟨hk2, hka, hF2⟩ := hj
        have hk2 : KdOk k2 := hk2
        have hka : k2.l = kadd k'.l x := hka
        have hF2 : ∀ w, F2 w → F w ∧ KnF k2 w := hF2
        have hg : Gn k'.l ⟨54, x, 2, none, [], 0⟩ k2.l 1 (4 * (D + 1)) := by rw [hka]; exact (Gn.par (d := 0) hxn (.nil _ _) (by decide) (Gs.nil _ _)).le (Nat.le_refl _) (by omega)
        refine wX ?_
        try refine Nd.mk ⟨Nat.le_refl 1, rfl, rfl⟩ ?_
        (conv => whnf)
        refine AppN.grow 2 (nodesC l) (nodeC (⟨54, x, 2, none, [], 0⟩ : TP)) rfl rfl ⟨Nat.le_refl 1, ⟨by show (l.length + 1) * 56 ≤ _; omega, by show l.length + 1 < _; omega⟩, by decide⟩ fun b' c' g1' g2' => ?_
        refine wX ?_
        have e1 : nodesC l ++ nodeC (⟨54, x, 2, none, [], 0⟩ : TP) = nodesC (l ++ [(⟨54, x, 2, none, [], 0⟩ : TP)]) := by rw [nodesC_one, nodesC_app]
        have e2 : l.length + 1 = (l ++ [(⟨54, x, 2, none, [], 0⟩ : TP)]).length := by simp
        have e3 : strsC u ++ [.string (bs x)] = strsC (u ++ [x]) := by simp [strsC]
        have e4 : u.length + 1 = (u ++ [x]).length := by simp
        have hku : KL (u ++ [x]) := by have h := hi.ul.add hxn; rw [kadd, if_neg hxu] at h; exact h
        rw [e1, e2, e3, e4]
        refine ⟨⟨i, ⟨l ++ [(⟨54, x, 2, none, [], 0⟩ : TP)], some b', c', u ++ [x], some ub2, uc2, k2, q2, _, _⟩⟩, ⟨by show i ≤ m; omega, by show (l ++ [(⟨54, x, 2, none, [], 0⟩ : TP)]).length + i ≤ L0 + m; rw [← e2]; omega, by show p1 ≤ q2; omega, hi.snoc (κ := 2) (s := 1) (.parn (nmL_lo x hxn) (.inr (.inl rfl))) rfl (by decide) hgo hku (fun y hy => List.mem_append_left _ hy) hxu (fun _ => List.mem_append_right _ (List.mem_singleton.2 rfl)) (fun h => by cases h) (by rw [← e4]; exact g1) hg (by assumption) ⟨by omega, by omega⟩ (by show 8 * (q - p) + 2 * (m - (i + 1)) + 8 * (q0 - p1) + _ ≤ 8 * (q - p) + 2 * (m - i) + 8 * (q2 - p1); omega) (fun w hw => ⟨(hF2 w hw.1).1, f0 hg.tk rfl, (hF2 w hw.1).2⟩) g1' (by omega)⟩, Nat.lt_succ_self _, ?_, _, seal3 _ _ _ _ _, ⟨wkE_refl _, wkE_refl _, wkE_refl _, wkE_refl _, wkH_nil _⟩⟩
        exact wKK
      ·have hgo : ¬ ((2 : Int) = lastN 0 l ∧ 2 ≤ lastN 0 l) := fun h => by
        have : l = [] := List.length_eq_zero_iff.1 (by omega)
        rw [this] at h
        exact absurd h.2 (by decide)
       refine wX ?_
       refine brd_intro (fun h7 => ?_) (fun h7 => absurd (h7.symm.trans (congrArg (!·) hxe)) (by decide))
       refine wX ?_
       refine Nd.mk ⟨Nat.le_refl 1, rfl, rfl⟩ ?_
       (conv => whnf)
       refine AppN.grow 3 (strsC u) [.string (bs x)] rfl rfl ⟨Nat.le_refl 1, ⟨by show (u.length + 1) * 16 ≤ _; omega, by omega⟩, by decide⟩ fun ub2 uc2 g1 g2 => ?_
       refine wX ?_
       refine callG (declared_c g k' hi.kd x hxn q2 z' F (fun w hw => (hi.f w hw).2.2)) [0, 1] rfl ⟨rfl, rfl, trivial⟩ rfl fun j hj => ?_
       obtain ⟨k2, F2⟩ := j
       obtain ⟨hk2, hka, hF2⟩ := hj
       have hk2 : KdOk k2 := hk2
       have hka : k2.l = kadd k'.l x := hka
       have hF2 : ∀ w, F2 w → F w ∧ KnF k2 w := hF2
       have hg : Gn k'.l ⟨54, x, 2, none, [], 0⟩ k2.l 1 (4 * (D + 1)) := by rw [hka]; exact (Gn.par (d := 0) hxn (.nil _ _) (by decide) (Gs.nil _ _)).le (Nat.le_refl _) (by omega)
       refine wX ?_
       try refine Nd.mk ⟨Nat.le_refl 1, rfl, rfl⟩ ?_
       (conv => whnf)
       refine AppN.grow 2 (nodesC l) (nodeC (⟨54, x, 2, none, [], 0⟩ : TP)) rfl rfl ⟨Nat.le_refl 1, ⟨by show (l.length + 1) * 56 ≤ _; omega, by show l.length + 1 < _; omega⟩, by decide⟩ fun b' c' g1' g2' => ?_
       refine wX ?_
       have e1 : nodesC l ++ nodeC (⟨54, x, 2, none, [], 0⟩ : TP) = nodesC (l ++ [(⟨54, x, 2, none, [], 0⟩ : TP)]) := by rw [nodesC_one, nodesC_app]
       have e2 : l.length + 1 = (l ++ [(⟨54, x, 2, none, [], 0⟩ : TP)]).length := by simp
       have e3 : strsC u ++ [.string (bs x)] = strsC (u ++ [x]) := by simp [strsC]
       have e4 : u.length + 1 = (u ++ [x]).length := by simp
       have hku : KL (u ++ [x]) := by have h := hi.ul.add hxn; rw [kadd, if_neg hxu] at h; exact h
       rw [e1, e2, e3, e4]
       refine ⟨⟨i, ⟨l ++ [(⟨54, x, 2, none, [], 0⟩ : TP)], some b', c', u ++ [x], some ub2, uc2, k2, q2, _, _⟩⟩, ⟨by show i ≤ m; omega, by show (l ++ [(⟨54, x, 2, none, [], 0⟩ : TP)]).length + i ≤ L0 + m; rw [← e2]; omega, by show p1 ≤ q2; omega, hi.snoc (κ := 2) (s := 1) (.parn (nmL_lo x hxn) (.inr (.inl rfl))) rfl (by decide) hgo hku (fun y hy => List.mem_append_left _ hy) hxu (fun _ => List.mem_append_right _ (List.mem_singleton.2 rfl)) (fun h => by cases h) (by rw [← e4]; exact g1) hg (by assumption) ⟨by omega, by omega⟩ (by show 8 * (q - p) + 2 * (m - (i + 1)) + 8 * (q0 - p1) + _ ≤ 8 * (q - p) + 2 * (m - i) + 8 * (q2 - p1); omega) (fun w hw => ⟨(hF2 w hw.1).1, f0 hg.tk rfl, (hF2 w hw.1).2⟩) g1' (by omega)⟩, Nat.lt_succ_self _, ?_, _, seal3 _ _ _ _ _, ⟨wkE_refl _, wkE_refl _, wkE_refl _, wkE_refl _, wkH_nil _⟩⟩
       exact wKK
   ·refine wX ?_
    refine brd_intro (fun h7 => ?_) (fun h7 => absurd (h7.symm.trans (congrArg (!·) hxe)) (by decide))
    refine wX ?_
    refine call1 (RHas_c (at0 ub) u uc x (fun h => by cases hb : ub with | none => exact absurd (hi.unil hb) h | some b => rfl) (by omega) _ (fun w hw => by have h := hw.2.2.2.1; rw [Nat.mul_one] at h; exact h)) ?_
    by_cases hxu : x ∈ u
    ·rw [decide_eq_true hxu]
     refine wX ?_
     refine ⟨⟨i, ⟨l, ob, cap, u, ub, uc, k', q1, z', _⟩⟩, ⟨by show i ≤ m; omega, by show l.length + i ≤ L0 + m; omega, by show p1 ≤ q1; omega, hi.keep (p2 := q1) ⟨by omega, by omega⟩ (by show 8 * (q - p) + 2 * (m - (i + 1)) + 8 * (q0 - p1) ≤ 8 * (q - p) + 2 * (m - i) + 8 * (q1 - p1); omega) fun w hw => hw.1⟩, Nat.lt_succ_self _, ?_, _, seal3 _ _ _ _ _, ⟨wkE_refl _, wkE_refl _, wkE_refl _, wkE_refl _, wkH_nil _⟩⟩
     exact wKK
    ·rw [decide_eq_false hxu]
     refine wX ?_
     refine brd_dec (fun h8 => ?_) (fun h8 => ?_)
     ·have hl0 : l ≠ [] := fun e => by rw [e] at h8; exact absurd h8 (by decide)
      have hl1 : 0 < l.length := List.length_pos_iff.2 hl0
      obtain ⟨tl, htl, hln⟩ := lastN_get hl0 0
      have hwl : IntKind.i64.wrap ((l.length : Int) - 1) = ((l.length - 1 : Nat) : Int) := by rw [wrap_i64 (by omega)]; omega
      refine wX ?_
      rw [hwl]
      refine Nd.mk ⟨isT (at0_nil hi.nil) htl, by omega, by omega⟩ ?_
      refine wX ?_
      refine LdN.fld (.int .i64 tl.n) rfl (fun w hw => hw.2.2.1) (by rw [Int.toNat_natCast]; exact nodesC_get l (l.length - 1) 2 (by decide) htl) ?_
      refine wX ?_
      refine brd_eq (fun h9 => ?_) (fun h9 => ?_)
      ·-- nothing was added; q1: where the numbers are
       refine wX ?_
       refine ⟨⟨i, ⟨l, ob, cap, u, ub, uc, k', q1, z', _⟩⟩, ⟨by show i ≤ m; omega, by show l.length + i ≤ L0 + m; omega, by show p1 ≤ q1; omega, hi.keep (p2 := q1) ⟨by omega, by omega⟩ (by show 8 * (q - p) + 2 * (m - (i + 1)) + 8 * (q0 - p1) ≤ 8 * (q - p) + 2 * (m - i) + 8 * (q1 - p1); omega) fun w hw => hw.1⟩, Nat.lt_succ_self _, ?_, _, seal3 _ _ _ _ _, ⟨wkE_refl _, wkE_refl _, wkE_refl _, wkE_refl _, wkH_nil _⟩⟩
       exact wKK
      ·have hgo : ¬ ((3 : Int) = lastN 0 l ∧ 2 ≤ lastN 0 l) := fun h => h9 (hln.symm.trans h.1.symm)
       refine wX ?_
       refine brd_intro (fun h7 => ?_) (fun h7 => absurd (h7.symm.trans (congrArg (!·) hxe)) (by decide))
       refine wX ?_
       refine Nd.mk ⟨Nat.le_refl 1, rfl, rfl⟩ ?_
       (conv => whnf)
       refine AppN.grow 3 (strsC u) [.string (bs x)] rfl rfl ⟨Nat.le_refl 1, ⟨by show (u.length + 1) * 16 ≤ _; omega, by omega⟩, by decide⟩ fun ub2 uc2 g1 g2 => ?_
       refine wX ?_
       refine callG (declared_c g k' hi.kd x hxn q1 z' F (fun w hw => (hi.f w hw).2.2)) [0, 1] rfl ⟨rfl, rfl, trivial⟩ rfl fun j hj => ?_
       obtain ⟨k2, F2⟩ := j
       obtain ⟨hk2, hka, hF2⟩ := hj
       have hk2 : KdOk k2 := hk2
       have hka : k2.l = kadd k'.l x := hka
       have hF2 : ∀ w, F2 w → F w ∧ KnF k2 w := hF2
       have hg : Gn k'.l ⟨54, x, 3, none, [], 0⟩ k2.l 1 (4 * (D + 1)) := by rw [hka]; exact (Gn.par (d := 0) hxn (.nil _ _) (by decide) (Gs.nil _ _)).le (Nat.le_refl _) (by omega)
       refine wX ?_
       try refine Nd.mk ⟨Nat.le_refl 1, rfl, rfl⟩ ?_
       (conv => whnf)
       refine AppN.grow 2 (nodesC l) (nodeC (⟨54, x, 3, none, [], 0⟩ : TP)) rfl rfl ⟨Nat.le_refl 1, ⟨by show (l.length + 1) * 56 ≤ _; omega, by show l.length + 1 < _; omega⟩, by decide⟩ fun b' c' g1' g2' => ?_
       refine wX ?_
       have e1 : nodesC l ++ nodeC (⟨54, x, 3, none, [], 0⟩ : TP) = nodesC (l ++ [(⟨54, x, 3, none, [], 0⟩ : TP)]) := by rw [nodesC_one, nodesC_app]
       have e2 : l.length + 1 = (l ++ [(⟨54, x, 3, none, [], 0⟩ : TP)]).length := by simp
       have e3 : strsC u ++ [.string (bs x)] = strsC (u ++ [x]) := by simp [strsC]
       have e4 : u.length + 1 = (u ++ [x]).length := by simp
       have hku : KL (u ++ [x]) := by have h := hi.ul.add hxn; rw [kadd, if_neg hxu] at h; exact h
       rw [e1, e2, e3, e4]
       refine ⟨⟨i, ⟨l ++ [(⟨54, x, 3, none, [], 0⟩ : TP)], some b', c', u ++ [x], some ub2, uc2, k2, q1, _, _⟩⟩, ⟨by show i ≤ m; omega, by show (l ++ [(⟨54, x, 3, none, [], 0⟩ : TP)]).length + i ≤ L0 + m; rw [← e2]; omega, by show p1 ≤ q1; omega, hi.snoc (κ := 3) (s := 1) (.parn (nmL_lo x hxn) (.inr (.inr rfl))) rfl (by decide) hgo hku (fun y hy => List.mem_append_left _ hy) hxu (fun _ => List.mem_append_right _ (List.mem_singleton.2 rfl)) (fun h => by cases h) (by rw [← e4]; exact g1) hg (by assumption) ⟨by omega, by omega⟩ (by show 8 * (q - p) + 2 * (m - (i + 1)) + 8 * (q0 - p1) + _ ≤ 8 * (q - p) + 2 * (m - i) + 8 * (q1 - p1); omega) (fun w hw => ⟨(hF2 w hw.1).1, f0 hg.tk rfl, (hF2 w hw.1).2⟩) g1' (by omega)⟩, Nat.lt_succ_self _, ?_, _, seal3 _ _ _ _ _, ⟨wkE_refl _, wkE_refl _, wkE_refl _, wkE_refl _, wkH_nil _⟩⟩
       exact wKK
     ·have hgo : ¬ ((3 : Int) = lastN 0 l ∧ 2 ≤ lastN 0 l) := fun h => by
       have : l = [] := List.length_eq_zero_iff.1 (by omega)
       rw [this] at h
       exact absurd h.2 (by decide)
      refine wX ?_
      refine brd_intro (fun h7 => ?_) (fun h7 => absurd (h7.symm.trans (congrArg (!·) hxe)) (by decide))
      refine wX ?_
      refine Nd.mk ⟨Nat.le_refl 1, rfl, rfl⟩ ?_
      (conv => whnf)
      refine AppN.grow 3 (strsC u) [.string (bs x)] rfl rfl ⟨Nat.le_refl 1, ⟨by show (u.length + 1) * 16 ≤ _; omega, by omega⟩, by decide⟩ fun ub2 uc2 g1 g2 => ?_
      refine wX ?_
      refine callG (declared_c g k' hi.kd x hxn q1 z' F (fun w hw => (hi.f w hw).2.2)) [0, 1] rfl ⟨rfl, rfl, trivial⟩ rfl fun j hj => ?_
      obtain ⟨k2, F2⟩ := j
      obtain ⟨hk2, hka, hF2⟩ := hj
      have hk2 : KdOk k2 := hk2
      have hka : k2.l = kadd k'.l x := hka
      have hF2 : ∀ w, F2 w → F w ∧ KnF k2 w := hF2
      have hg : Gn k'.l ⟨54, x, 3, none, [], 0⟩ k2.l 1 (4 * (D + 1)) := by rw [hka]; exact (Gn.par (d := 0) hxn (.nil _ _) (by decide) (Gs.nil _ _)).le (Nat.le_refl _) (by omega)
      refine wX ?_
      try refine Nd.mk ⟨Nat.le_refl 1, rfl, rfl⟩ ?_
      (conv => whnf)
      refine AppN.grow 2 (nodesC l) (nodeC (⟨54, x, 3, none, [], 0⟩ : TP)) rfl rfl ⟨Nat.le_refl 1, ⟨by show (l.length + 1) * 56 ≤ _; omega, by show l.length + 1 < _; omega⟩, by decide⟩ fun b' c' g1' g2' => ?_
      refine wX ?_
      have e1 : nodesC l ++ nodeC (⟨54, x, 3, none, [], 0⟩ : TP) = nodesC (l ++ [(⟨54, x, 3, none, [], 0⟩ : TP)]) := by rw [nodesC_one, nodesC_app]
      have e2 : l.length + 1 = (l ++ [(⟨54, x, 3, none, [], 0⟩ : TP)]).length := by simp
      have e3 : strsC u ++ [.string (bs x)] = strsC (u ++ [x]) := by simp [strsC]
      have e4 : u.length + 1 = (u ++ [x]).length := by simp
      have hku : KL (u ++ [x]) := by have h := hi.ul.add hxn; rw [kadd, if_neg hxu] at h; exact h
      rw [e1, e2, e3, e4]
      refine ⟨⟨i, ⟨l ++ [(⟨54, x, 3, none, [], 0⟩ : TP)], some b', c', u ++ [x], some ub2, uc2, k2, q1, _, _⟩⟩, ⟨by show i ≤ m; omega, by show (l ++ [(⟨54, x, 3, none, [], 0⟩ : TP)]).length + i ≤ L0 + m; rw [← e2]; omega, by show p1 ≤ q1; omega, hi.snoc (κ := 3) (s := 1) (.parn (nmL_lo x hxn) (.inr (.inr rfl))) rfl (by decide) hgo hku (fun y hy => List.mem_append_left _ hy) hxu (fun _ => List.mem_append_right _ (List.mem_singleton.2 rfl)) (fun h => by cases h) (by rw [← e4]; exact g1) hg (by assumption) ⟨by omega, by omega⟩ (by show 8 * (q - p) + 2 * (m - (i + 1)) + 8 * (q0 - p1) + _ ≤ 8 * (q - p) + 2 * (m - i) + 8 * (q1 - p1); omega) (fun w hw => ⟨(hF2 w hw.1).1, f0 hg.tk rfl, (hF2 w hw.1).2⟩) g1' (by omega)⟩, Nat.lt_succ_self _, ?_, _, seal3 _ _ _ _ _, ⟨wkE_refl _, wkE_refl _, wkE_refl _, wkE_refl _, wkH_nil _⟩⟩
      exact wKK
  ·obtain rfl : i = 0 := by omega
   refine wX ?_
   refine ⟨⟨κ + 1, ⟨l, ob, cap, u, ub, uc, k', q0, z', F⟩⟩, ⟨by show κ + 1 ≤ 4; omega, by show l.length ≤ 2 * (κ + 1); omega, (hi.up (by omega)).keep ⟨Nat.le_refl _, hle.2⟩ (by show 8 * (q - p) + 2 * (m - 0) + 8 * (q0 - p1) ≤ 8 * (q0 - p); omega) fun _ hw => hw⟩, by show 4 - (κ + 1) < 4 - κ; omega, ?_, _, turn_refl _, ⟨wkE_refl _, wkE_refl _, wkE_refl _, wkE_refl _, wkH_nil _⟩⟩
   exact wKK
 ·obtain rfl : κ = 4 := by omega
  refine wX ?_
  refine ⟨_, sealR _ _ _ _ _, ⟨l, ob, cap, u, ub, uc, k', q, z', _⟩, hi.keep ⟨Nat.le_refl _, hle.2⟩ (Nat.le_refl _) (fun _ hw => hw.1), rfl, ⟨wkE_refl _, wkE_refl _, wkE_refl _, wkH_nil _⟩⟩
structure BoI where
 ps : List TP
 s : TP
 a : Option Addr
 cap : Nat
 k : NL
 p : Nat
 z : Int
 F : World → Prop
structure BoInv (g : GD) (A : World → Prop) (k : NL) (p d : Nat) (i : BoI) : Prop where
 vp : ∀ t ∈ i.ps, V .par t
 pk : parOk 0 [] i.ps
 vs : V .ex i.s
 so : i.s.op = 26
 gs : Gs k (i.ps ++ [i.s]) i.k (1 + 8 * (i.p - p)) d
 row : RowK i.a i.cap (i.ps ++ [i.s])
 le : p ≤ i.p ∧ i.p ≤ g.l.length
 f : ∀ w, i.F w → A w ∧ LsF i.a (i.ps ++ [i.s]) w
def BodyC (D : Nat) : Prop := ∀ (g : GD) (_ : GOk g) (k : KD) (_ : KdOk k) (p : Nat) (z : Int) (_ : p ≤ g.l.length) (A : World → Prop) (_ : ∀ w, A w → NumF g w ∧ KnF k w),
 SpecH Tryz.prog 40 (pvs [gP g, .int .i64 (D : Int), knV k]) [.fact A, grE g p z]
  (RetG (ι := BoI) (BoInv g A k.l p (4 * D)) (fun i => .slice i.a (i.ps ++ [i.s]).length i.cap) fun i => [.fact i.F, grE g i.p i.z])
theorem lsF {w : World} {a : Option Addr} {l : List TP} {m : Nat} (h : SlAt a m (nodesC l) w) (hm : m = l.length * 4) (hs : ∀ t ∈ l, TreeF w t) : LsF a l w := ⟨hm ▸ h, hs⟩
set_option maxHeartbeats 4000000 in
theorem gbody_c (D : Nat) (hp1 : ParamsC D) (hs1 : SeqC D) : BodyC D := by
 intro g ok k kok p z hp A hA
 refine ownT hm Tryz.func40 (by kernel_rfl) rfl rfl (fun _ _ => okHB_eq rfl) (fun _ _ => Nat.le_of_ble_eq_true rfl) ?_
 have hlen := ok.len
 refine wX ?_
 refine callG (hp1 g ok k kok p z hp A hA) [0, 1] rfl ⟨rfl, rfl, trivial⟩ rfl fun i hi => ?_
 obtain ⟨l, ob, cap, u, ub, uc, k1, p1, z1, F1⟩ := i
 have hle : p ≤ p1 ∧ p1 ≤ g.l.length := hi.le
 have hll : l.length ≤ 100 := hi.len
 have hgs : Gs k.l l k1.l (8 * (p1 - p)) (4 * D) := hi.gs
 refine wX ?_
 refine callG (hs1 g ok k1 hi.kd p1 z1 hle.2 F1 (fun w hw => ⟨(hA w (hi.f w hw).1).1, (hi.f w hw).2.2⟩)) [0, 1] rfl ⟨rfl, rfl, trivial⟩ rfl fun j hj => ?_
 obtain ⟨t, k2, p2, z2, F2⟩ := j
 have hle2 : p1 ≤ p2 ∧ p2 ≤ g.l.length := hj.le
 have hgt : Gn k1.l t k2.l (1 + 8 * (p2 - p1)) (4 * D) := hj.gn
 refine wX ?_
 try refine Nd.mk ⟨Nat.le_refl 1, rfl, rfl⟩ ?_
 (conv => whnf)
 refine AppN.grow 2 (nodesC l) (nodeC t) rfl rfl ⟨Nat.le_refl 1, ⟨by show (l.length + 1) * 56 ≤ _; omega, by show l.length + 1 < _; omega⟩, by decide⟩ fun b' c' g1' g2' => ?_
 refine wX ?_
 have e1 : nodesC l ++ nodeC t = nodesC (l ++ [t]) := by rw [nodesC_one, nodesC_app]
 have e2 : l.length + 1 = (l ++ [t]).length := by simp
 rw [e1, e2]
 refine ⟨_, sealG _ _ _ _ _, ⟨l, t, some ⟨b', 0, none⟩, c', k2.l, p2, z2, _⟩, ⟨hi.v, hi.pk, hj.v, hj.q, (hgs.snoc hgt).le (by show 8 * (p1 - p) + (1 + 8 * (p2 - p1)) ≤ 1 + 8 * (p2 - p); omega) (Nat.le_refl _), .some (by rw [← e2]; exact g1'), ⟨Nat.le_trans hle.1 hle2.1, hle2.2⟩, fun w hw => ?_⟩, rfl, ⟨wkE_refl _, wkE_refl _, wkH_nil _⟩⟩
 obtain ⟨f1, f2, f3⟩ := hj.f w hw.1
 obtain ⟨f4, f5, _⟩ := hi.f w f1
 exact ⟨f4, lsF hw.2.1 rfl (allV f5 (allC f2 allN))⟩
structure ArI where
 l : List TP
 b : List TP
 a : Option Addr
 cap : Nat
 k : KD
 p : Nat
 z : Int
 F : World → Prop
structure ArInv (g : GD) (A : World → Prop) (k : KD) (p d : Nat) (bl : Bool) (i : ArI) : Prop where
 vl : ∀ t ∈ i.l, V .arg t
 vb : ∀ t ∈ i.b, V .blk t
 b1 : i.b.length ≤ 1
 nb : bl = false → i.b = []
 gs : Gs k.l (i.l ++ i.b) i.k.l (8 * (i.p - p)) d
 row : RowK i.a i.cap (i.l ++ i.b)
 kd : KdOk i.k
 le : p ≤ i.p ∧ i.p ≤ g.l.length
 f : ∀ w, i.F w → A w ∧ LsF i.a (i.l ++ i.b) w ∧ KnF i.k w
def ArgsC (D : Nat) : Prop := ∀ (g : GD) (_ : GOk g) (bl : Bool) (k : KD) (_ : KdOk k) (p : Nat) (z : Int) (_ : p ≤ g.l.length) (A : World → Prop) (_ : ∀ w, A w → NumF g w ∧ KnF k w),
 SpecH Tryz.prog 36 (pvs [gP g, .int .i64 (D : Int), .bool bl, knV k]) [.fact A, grE g p z]
  (RetG (ι := ArI) (ArInv g A k p (4 * D + 1) bl) (fun i => .tuple #[.slice i.a (i.l ++ i.b).length i.cap, knV i.k]) fun i => [.fact i.F, grE g i.p i.z])
theorem rowK {l : List TP} {ob : Option Nat} {c : Nat} (h : ob = none → l = []) (hc : l.length ≤ c) : RowK (at0 ob) c l := ⟨at0_nil h, hc⟩
set_option maxHeartbeats 4000000 in
theorem gargs_c (D : Nat) (hD : D ≤ 100) (ih : ExprC D) (hb1 : BodyC (D + 1)) : ArgsC (D + 1) := by
 intro g ok bl k kok p z hp A hA
 refine ownT hm Tryz.func36 (by kernel_rfl) rfl rfl (fun _ _ => okHB_eq rfl) (fun _ _ => Nat.le_of_ble_eq_true rfl) ?_
 have hlen := ok.len
 refine wX ?_
 refine callG (pick_c g ok p z 3 ⟨by decide, by decide⟩ hp A (fun w hw => (hA w hw).1)) [0, 1] rfl ⟨rfl, rfl, trivial⟩ rfl fun i hi => ?_
 obtain ⟨m, p1⟩ := i
 obtain ⟨h1, h2, h3, h4⟩ := hi
 have h1 : m < 3 := h1
 have h2 : p ≤ p1 := h2
 have h3 : p1 ≤ g.l.length := h3
 have h4 : m ≠ 0 → p < p1 := h4
 have h5 : m ≤ 8 * (p1 - p) := by
  by_cases h : m = 0
  ·omega
  ·have := h4 h; omega
 refine wX ?_
 refine LoopN.introS SmI (fun i => SmInv (V .arg) g A k p1 (4 * D + 4) i ∧ i.l.length ≤ m)
  (fun ⟨l, ob, cap, k', _, _, _⟩ => mkS Tryz.f36.ntmps 0 [(0, .c (.v (gP g))), (1, .c (.v (.int .i64 ((D + 1 : Nat) : Int)))), (2, .c (.v (.bool bl))), (3, .c (.v (knV k'))), (8, .c (.v (.slice none 0 0))), (9, .c (.v (.slice none 0 0))), (10, .c (.v (.slice (at0 ob) l.length cap))), (11, .c (.v (.int .i64 ((m : Int) - (l.length : Int)))))])
  (fun ⟨l, ob, cap, _, q, z', F⟩ => [.fact F, grE g q z', rowN4 l ob cap])
  (fun i => m - i.l.length) [.app ndT 4 [] none 0 0] rfl (fun _ => rfl) (fun _ => rfl) (fun _ _ => okHB_eq rfl)
  ⟨⟨[], none, 0, k, p1, z, A⟩, ⟨⟨(fun _ h => by cases h), (Gs.nil _ _).le (by omega) (Nat.le_refl _), kok, ⟨Nat.le_refl _, h3⟩, fun _ => rfl, Nat.le_refl _, fun w hw => ⟨hw, (fun _ h => by cases h), (hA w hw).2⟩⟩, Nat.zero_le _⟩, ?_, _, turn_refl _, ⟨wkE_refl _, wkE_refl _, wkE_refl _, wkH_nil _⟩⟩ ?_
 ·(repeat' (first | exact trivial | refine And.intro (by with_reducible rfl) ?_ | (with_reducible exact wkC_refl _) | (with_reducible exact wkCs_refl _) | refine And.intro ?_ ?_))
  all_goals first | rfl | exact av_int (by simp)
 rintro ⟨l, ob, cap, k', q, z', F⟩ ⟨hi, hln⟩
 have hln : l.length ≤ m := hln
 have hnil : at0 ob = none → l = [] := at0_nil hi.nil
 have hcap : l.length ≤ cap := hi.cap
 have hle : p1 ≤ q ∧ q ≤ g.l.length := hi.le
 refine wX ?_
 refine brd_dec (fun h6 => ?_) (fun h6 => ?_)
 ·refine wX ?_
  rw [low D hD]
  refine callG (ih g ok k' hi.kd q z' hi.le.2 F (fun w hw => ⟨(hA w (hi.f w hw).1).1, (hi.f w hw).2.2⟩)) [0, 1] rfl ⟨rfl, rfl, trivial⟩ rfl fun j hj => ?_
  obtain ⟨t, k2, q2, z2, F2⟩ := j
  have hle2 : q ≤ q2 ∧ q2 ≤ g.l.length := hj.le
  have htg : Gn k'.l t k2.l (1 + 8 * (q2 - q)) (4 * D + 3) := hj.gn
  have htv : V .ex t := hj.v
  refine wX ?_
  refine callG (pick_c g ok q2 z2 6 ⟨by decide, by decide⟩ hle2.2 F2 (fun w hw => (hA w (hi.f w (hj.f w hw).1).1).1)) [0, 1] rfl ⟨rfl, rfl, trivial⟩ rfl fun i hi3 => ?_
  obtain ⟨y, q3⟩ := i
  obtain ⟨_, j2, j3, j4⟩ := hi3
  have j2 : q2 ≤ q3 := j2
  have j3 : q3 ≤ g.l.length := j3
  have j4 : y ≠ 0 → q2 < q3 := j4
  refine wX ?_
  refine brd_eq (fun hy => ?_) (fun hy => ?_)
  ·have j5 := j4 (by omega)
   refine wXR ?_
   refine RwN.known (nodeC t) rfl fun nb => ?_
   refine wXR ?_
   refine call1 (node_c _ _ _ _ _ _) ?_
   refine wX ?_
   have hg : Gn k'.l ⟨22, [], 0, some ⟨nb, 0, none⟩, [t], 1⟩ k2.l (1 + 8 * (q3 - q)) (4 * D + 4) := (Gn.q (s := 1 + 8 * (q2 - q)) (d := 4 * D + 3) rfl (.some (Nat.le_refl 1)) (Nat.zero_le _) (by omega) htg.s).le (by omega) (by omega)
   try refine Nd.mk ⟨Nat.le_refl 1, rfl, rfl⟩ ?_
   (conv => whnf)
   refine AppN.grow 2 (nodesC l) (nodeC (⟨22, [], 0, some ⟨nb, 0, none⟩, [t], 1⟩ : TP)) rfl rfl ⟨Nat.le_refl 1, ⟨by show (l.length + 1) * 56 ≤ _; omega, by show l.length + 1 < _; omega⟩, by decide⟩ fun b' c' g1' g2' => ?_
   refine wX ?_
   have e1 : nodesC l ++ nodeC (⟨22, [], 0, some ⟨nb, 0, none⟩, [t], 1⟩ : TP) = nodesC (l ++ [(⟨22, [], 0, some ⟨nb, 0, none⟩, [t], 1⟩ : TP)]) := by rw [nodesC_one, nodesC_app]
   have e2 : l.length + 1 = (l ++ [(⟨22, [], 0, some ⟨nb, 0, none⟩, [t], 1⟩ : TP)]).length := by simp
   rw [e1, e2]
   refine ⟨⟨l ++ [(⟨22, [], 0, some ⟨nb, 0, none⟩, [t], 1⟩ : TP)], some b', c', k2, q3, _, _⟩, ⟨hi.snoc (.splat htv) hg hj.kd ⟨by show q ≤ q3; omega, by omega⟩ (fun w hw => ⟨(hj.f w hw.1).1, treeF hg.tk hw.2.1 rfl (one_mem (hj.f w hw.1).2.1), (hj.f w hw.1).2.2⟩) g1', by show (l ++ [(⟨22, [], 0, some ⟨nb, 0, none⟩, [t], 1⟩ : TP)]).length ≤ m; rw [← e2]; omega⟩, by show m - (l ++ [(⟨22, [], 0, some ⟨nb, 0, none⟩, [t], 1⟩ : TP)]).length < m - l.length; rw [← e2]; omega, ?_, _, sealR _ _ _ _ _, ⟨wkE_refl _, wkE_refl _, wkE_refl _, wkH_nil _⟩⟩
   exact wKK
  ·refine wX ?_
   try refine Nd.mk ⟨Nat.le_refl 1, rfl, rfl⟩ ?_
   (conv => whnf)
   refine AppN.grow 2 (nodesC l) (nodeC t) rfl rfl ⟨Nat.le_refl 1, ⟨by show (l.length + 1) * 56 ≤ _; omega, by show l.length + 1 < _; omega⟩, by decide⟩ fun b' c' g1' g2' => ?_
   refine wX ?_
   have e1 : nodesC l ++ nodeC t = nodesC (l ++ [t]) := by rw [nodesC_one, nodesC_app]
   have e2 : l.length + 1 = (l ++ [t]).length := by simp
   rw [e1, e2]
   refine ⟨⟨l ++ [t], some b', c', k2, q3, _, _⟩, ⟨hi.snoc (.argx htv) (htg.le (by show 1 + 8 * (q2 - q) ≤ 1 + 8 * (q3 - q); omega) (by omega)) hj.kd ⟨by show q ≤ q3; omega, by omega⟩ (fun w hw => ⟨(hj.f w hw.1).1, (hj.f w hw.1).2.1, (hj.f w hw.1).2.2⟩) g1', by show (l ++ [t]).length ≤ m; rw [← e2]; omega⟩, by show m - (l ++ [t]).length < m - l.length; rw [← e2]; omega, ?_, _, sealR _ _ _ _ _, ⟨wkE_refl _, wkE_refl _, wkE_refl _, wkH_nil _⟩⟩
   exact wKK
 ·have hlm : l.length = m := by omega
  cases bl with
  | false =>
   refine wX ?_
   refine ⟨_, sealG _ _ _ _ _, ⟨l, [], at0 ob, cap, k', q, z', _⟩, ⟨hi.v, fun _ h => (by cases h), Nat.zero_le _, fun _ => rfl, by rw [List.append_nil]; exact hi.gs.le (by show l.length + 8 * (q - p1) ≤ 8 * (q - p); omega) (by omega), by rw [List.append_nil]; exact rowK hi.nil hi.cap, hi.kd, ⟨by show p ≤ q; omega, by show q ≤ _; omega⟩, fun w hw => ?_⟩, by rw [List.append_nil], ⟨wkE_refl _, wkE_refl _, wkH_nil _⟩⟩
   rw [List.append_nil]
   obtain ⟨f1, f2, f3⟩ := hi.f w hw.1
   exact ⟨f1, lsF hw.2.1 rfl f2, f3⟩
  | true =>
   refine wX ?_
   refine callG (pick_c g ok q z' 5 ⟨by decide, by decide⟩ hle.2 F (fun w hw => (hA w (hi.f w hw).1).1)) [0, 1] rfl ⟨rfl, rfl, trivial⟩ rfl fun i hi3 => ?_
   obtain ⟨y, q2⟩ := i
   obtain ⟨j1, j2, j3, j4⟩ := hi3
   have j1 : y < 5 := j1
   have j2 : q ≤ q2 := j2
   have j3 : q2 ≤ g.l.length := j3
   have j4 : y ≠ 0 → q < q2 := j4
   rcases (by omega : y = 0 ∨ y = 4 ∨ y = 1 ∨ y = 2 ∨ y = 3) with rfl | rfl | rfl | rfl | rfl
   ·-- no block
    refine wX ?_
    refine ⟨_, sealG _ _ _ _ _, ⟨l, [], at0 ob, cap, k', q2, z', _⟩, ⟨hi.v, fun _ h => (by cases h), Nat.zero_le _, fun _ => rfl, by rw [List.append_nil]; exact hi.gs.le (by show l.length + 8 * (q - p1) ≤ 8 * (q2 - p); omega) (by omega), by rw [List.append_nil]; exact rowK hi.nil hi.cap, hi.kd, ⟨by show p ≤ q2; omega, by show q2 ≤ _; omega⟩, fun w hw => ?_⟩, by rw [List.append_nil], ⟨wkE_refl _, wkE_refl _, wkH_nil _⟩⟩
    rw [List.append_nil]
    obtain ⟨f1, f2, f3⟩ := hi.f w hw.1
    exact ⟨f1, lsF hw.2.1 rfl f2, f3⟩
   ·-- no block
    refine wX ?_
    refine ⟨_, sealG _ _ _ _ _, ⟨l, [], at0 ob, cap, k', q2, z', _⟩, ⟨hi.v, fun _ h => (by cases h), Nat.zero_le _, fun _ => rfl, by rw [List.append_nil]; exact hi.gs.le (by show l.length + 8 * (q - p1) ≤ 8 * (q2 - p); omega) (by omega), by rw [List.append_nil]; exact rowK hi.nil hi.cap, hi.kd, ⟨by show p ≤ q2; omega, by show q2 ≤ _; omega⟩, fun w hw => ?_⟩, by rw [List.append_nil], ⟨wkE_refl _, wkE_refl _, wkH_nil _⟩⟩
    rw [List.append_nil]
    obtain ⟨f1, f2, f3⟩ := hi.f w hw.1
    exact ⟨f1, lsF hw.2.1 rfl f2, f3⟩
   ·have j5 := j4 (by decide)
    refine wX ?_
    rw [low D hD]
    refine callG (ih g ok k' hi.kd q2 z' j3 F (fun w hw => ⟨(hA w (hi.f w hw).1).1, (hi.f w hw).2.2⟩)) [0, 1] rfl ⟨rfl, rfl, trivial⟩ rfl fun j hj => ?_
    obtain ⟨t, k2, q3, z2, F2⟩ := j
    have hle2 : q2 ≤ q3 ∧ q3 ≤ g.l.length := hj.le
    have htg : Gn k'.l t k2.l (1 + 8 * (q3 - q2)) (4 * D + 3) := hj.gn
    have hk2 : KdOk k2 := hj.kd
    refine wXR ?_
    refine RwN.known (nodeC t) rfl fun nb => ?_
    refine wXR ?_
    refine call1 (node_c _ _ _ _ _ _) ?_
    refine wX ?_
    have hg : Gn k'.l ⟨23, [], 0, some ⟨nb, 0, none⟩, [t], 1⟩ k2.l (2 + 8 * (q3 - q2)) (4 * (D + 1) + 1) := (Gn.q (s := 1 + 8 * (q3 - q2)) (d := 4 * D + 3) rfl (.some (Nat.le_refl 1)) (Nat.zero_le _) (by omega) htg.s).le (by omega) (by omega)
    try refine Nd.mk ⟨Nat.le_refl 1, rfl, rfl⟩ ?_
    (conv => whnf)
    refine AppN.grow 2 (nodesC l) (nodeC (⟨23, [], 0, some ⟨nb, 0, none⟩, [t], 1⟩ : TP)) rfl rfl ⟨Nat.le_refl 1, ⟨by show (l.length + 1) * 56 ≤ _; omega, by show l.length + 1 < _; omega⟩, by decide⟩ fun b' c' g1' g2' => ?_
    refine wX ?_
    have e1 : nodesC l ++ nodeC (⟨23, [], 0, some ⟨nb, 0, none⟩, [t], 1⟩ : TP) = nodesC (l ++ [(⟨23, [], 0, some ⟨nb, 0, none⟩, [t], 1⟩ : TP)]) := by rw [nodesC_one, nodesC_app]
    have e2 : l.length + 1 = (l ++ [(⟨23, [], 0, some ⟨nb, 0, none⟩, [t], 1⟩ : TP)]).length := by simp
    rw [e1, e2]
    refine ⟨_, sealG _ _ _ _ _, ⟨l, [(⟨23, [], 0, some ⟨nb, 0, none⟩, [t], 1⟩ : TP)], some ⟨b', 0, none⟩, c', k2, q3, _, _⟩, ⟨hi.v, fun t ht => (by rw [List.mem_singleton.1 ht]; exact (.bpass hj.v)), Nat.le_refl 1, fun h => (by cases h), ((hi.gs.le (Nat.le_refl _) (by omega)).snoc hg).le (by show l.length + 8 * (q - p1) + (2 + 8 * (q3 - q2)) ≤ 8 * (q3 - p); omega) (Nat.le_refl _), .some (by rw [← e2]; exact g1'), by assumption, ⟨by show p ≤ q3; omega, by show q3 ≤ _; omega⟩, fun w hw => ?_⟩, rfl, ⟨wkE_refl _, wkE_refl _, wkH_nil _⟩⟩
    obtain ⟨f1, f2, f3⟩ := hj.f w hw.1
    obtain ⟨f4, f5, _⟩ := hi.f w f1
    exact ⟨f4, lsF hw.2.1 rfl (allV f5 (one_mem (treeF hg.tk hw.2.2.1 rfl (one_mem f2)))), f3⟩
   ·have j5 := j4 (by decide)
    refine wX ?_
    refine callG (hb1 g ok k' hi.kd q2 z' j3 F (fun w hw => ⟨(hA w (hi.f w hw).1).1, (hi.f w hw).2.2⟩)) [0, 1] rfl ⟨rfl, rfl, trivial⟩ rfl fun j hj => ?_
    obtain ⟨ps, s, ba, bc, bk, q3, z2, F2⟩ := j
    have hle2 : q2 ≤ q3 ∧ q3 ≤ g.l.length := hj.le
    have hk2 : KdOk k' := hi.kd
    have hgs : Gs k'.l (ps ++ [s]) bk (1 + 8 * (q3 - q2)) (4 * (D + 1)) := hj.gs
    refine wX ?_
    refine call1 (node_c _ _ _ _ _ _) ?_
    refine wX ?_
    have hg : Gn k'.l ⟨24, [], 0, ba, ps ++ [s], bc⟩ k'.l (2 + 8 * (q3 - q2)) (4 * (D + 1) + 1) := (Gn.blk (.inl rfl) hj.row (by omega) hgs).le (by omega) (by omega)
    try refine Nd.mk ⟨Nat.le_refl 1, rfl, rfl⟩ ?_
    (conv => whnf)
    refine AppN.grow 2 (nodesC l) (nodeC (⟨24, [], 0, ba, ps ++ [s], bc⟩ : TP)) rfl rfl ⟨Nat.le_refl 1, ⟨by show (l.length + 1) * 56 ≤ _; omega, by show l.length + 1 < _; omega⟩, by decide⟩ fun b' c' g1' g2' => ?_
    refine wX ?_
    have e1 : nodesC l ++ nodeC (⟨24, [], 0, ba, ps ++ [s], bc⟩ : TP) = nodesC (l ++ [(⟨24, [], 0, ba, ps ++ [s], bc⟩ : TP)]) := by rw [nodesC_one, nodesC_app]
    have e2 : l.length + 1 = (l ++ [(⟨24, [], 0, ba, ps ++ [s], bc⟩ : TP)]).length := by simp
    rw [e1, e2]
    refine ⟨_, sealG _ _ _ _ _, ⟨l, [(⟨24, [], 0, ba, ps ++ [s], bc⟩ : TP)], some ⟨b', 0, none⟩, c', k', q3, _, _⟩, ⟨hi.v, fun t ht => (by rw [List.mem_singleton.1 ht]; exact (.block hj.vp hj.pk hj.vs hj.so)), Nat.le_refl 1, fun h => (by cases h), ((hi.gs.le (Nat.le_refl _) (by omega)).snoc hg).le (by show l.length + 8 * (q - p1) + (2 + 8 * (q3 - q2)) ≤ 8 * (q3 - p); omega) (Nat.le_refl _), .some (by rw [← e2]; exact g1'), by assumption, ⟨by show p ≤ q3; omega, by show q3 ≤ _; omega⟩, fun w hw => ?_⟩, rfl, ⟨wkE_refl _, wkE_refl _, wkH_nil _⟩⟩
    obtain ⟨f1, f2⟩ := hj.f w hw.1
    obtain ⟨f4, f5, f6⟩ := hi.f w f1
    exact ⟨f4, lsF hw.2.1 rfl (allV f5 (one_mem (treeF hg.tk f2.1 rfl f2.2))), f6⟩
   ·have j5 := j4 (by decide)
    refine wX ?_
    refine callG (hb1 g ok k' hi.kd q2 z' j3 F (fun w hw => ⟨(hA w (hi.f w hw).1).1, (hi.f w hw).2.2⟩)) [0, 1] rfl ⟨rfl, rfl, trivial⟩ rfl fun j hj => ?_
    obtain ⟨ps, s, ba, bc, bk, q3, z2, F2⟩ := j
    have hle2 : q2 ≤ q3 ∧ q3 ≤ g.l.length := hj.le
    have hk2 : KdOk k' := hi.kd
    have hgs : Gs k'.l (ps ++ [s]) bk (1 + 8 * (q3 - q2)) (4 * (D + 1)) := hj.gs
    refine wX ?_
    refine call1 (node_c _ _ _ _ _ _) ?_
    refine wX ?_
    have hg : Gn k'.l ⟨24, [], 0, ba, ps ++ [s], bc⟩ k'.l (2 + 8 * (q3 - q2)) (4 * (D + 1) + 1) := (Gn.blk (.inl rfl) hj.row (by omega) hgs).le (by omega) (by omega)
    try refine Nd.mk ⟨Nat.le_refl 1, rfl, rfl⟩ ?_
    (conv => whnf)
    refine AppN.grow 2 (nodesC l) (nodeC (⟨24, [], 0, ba, ps ++ [s], bc⟩ : TP)) rfl rfl ⟨Nat.le_refl 1, ⟨by show (l.length + 1) * 56 ≤ _; omega, by show l.length + 1 < _; omega⟩, by decide⟩ fun b' c' g1' g2' => ?_
    refine wX ?_
    have e1 : nodesC l ++ nodeC (⟨24, [], 0, ba, ps ++ [s], bc⟩ : TP) = nodesC (l ++ [(⟨24, [], 0, ba, ps ++ [s], bc⟩ : TP)]) := by rw [nodesC_one, nodesC_app]
    have e2 : l.length + 1 = (l ++ [(⟨24, [], 0, ba, ps ++ [s], bc⟩ : TP)]).length := by simp
    rw [e1, e2]
    refine ⟨_, sealG _ _ _ _ _, ⟨l, [(⟨24, [], 0, ba, ps ++ [s], bc⟩ : TP)], some ⟨b', 0, none⟩, c', k', q3, _, _⟩, ⟨hi.v, fun t ht => (by rw [List.mem_singleton.1 ht]; exact (.block hj.vp hj.pk hj.vs hj.so)), Nat.le_refl 1, fun h => (by cases h), ((hi.gs.le (Nat.le_refl _) (by omega)).snoc hg).le (by show l.length + 8 * (q - p1) + (2 + 8 * (q3 - q2)) ≤ 8 * (q3 - p); omega) (Nat.le_refl _), .some (by rw [← e2]; exact g1'), by assumption, ⟨by show p ≤ q3; omega, by show q3 ≤ _; omega⟩, fun w hw => ?_⟩, rfl, ⟨wkE_refl _, wkE_refl _, wkH_nil _⟩⟩
    obtain ⟨f1, f2⟩ := hj.f w hw.1
    obtain ⟨f4, f5, f6⟩ := hi.f w f1
    exact ⟨f4, lsF hw.2.1 rfl (allV f5 (one_mem (treeF hg.tk f2.1 rfl f2.2))), f6⟩
def metL : NL := [[102, 111, 111], [98, 97, 114], [112], [99, 97, 108, 108], [102, 63], [103, 33], [99, 108, 97, 115, 115], [101, 110, 100], [120]]
def setL : NL := [[120, 61], [102, 111, 111, 61], [99, 108, 97, 115, 115, 61]]
theorem opers_g : SpecH Tryz.prog 52 (pvs []) [] (RetG (ι := Nat) (fun _ => True) (fun b => .slice (some ⟨b, 0, none⟩) 16 16) fun b => [.app 9 1 (strsC opL) (some ⟨b, 0, none⟩) 16 16]) := by
 refine ownC hm Tryz.func52 (by kernel_rfl) rfl rfl (fun _ _ => okHB_eq rfl) (fun _ _ => Nat.le_of_ble_eq_true rfl) ?_
 refine wXR ?_
 refine RwN.known (strsC opL) rfl fun rb => ?_
 refine wXR ?_
 exact ⟨rb, trivial, rfl, ⟨wkE_refl _, wkH_nil _⟩⟩
theorem methods_g : SpecH Tryz.prog 53 (pvs []) [] (RetG (ι := Nat) (fun _ => True) (fun b => .slice (some ⟨b, 0, none⟩) 9 9) fun b => [.app 9 1 (strsC metL) (some ⟨b, 0, none⟩) 9 9]) := by
 refine ownC hm Tryz.func53 (by kernel_rfl) rfl rfl (fun _ _ => okHB_eq rfl) (fun _ _ => Nat.le_of_ble_eq_true rfl) ?_
 refine wXR ?_
 refine RwN.known (strsC metL) rfl fun rb => ?_
 refine wXR ?_
 exact ⟨rb, trivial, rfl, ⟨wkE_refl _, wkH_nil _⟩⟩
theorem opL_v : ∀ x ∈ opL, opS x = true ∧ x.length ≤ 2000 := by decide +kernel
theorem setL_v : ∀ x ∈ setL, meB x = true ∧ opS x = false ∧ x.getLast? = some 61 ∧ x.length ≤ 2000 := by decide +kernel
theorem metL_v : ∀ x ∈ metL, meB x = true ∧ opS x = false ∧ x.getLast? ≠ some 61 ∧ x.length ≤ 2000 := by decide +kernel
theorem int_leaf {t : TP} (h : V .ex t) (ho : t.op = 4) : t.name = [] ∧ t.kids = [] := by
 cases h <;> first | exact ⟨rfl, rfl⟩ | (exfalso; dsimp only at ho; omega)
theorem Gs.un {k k' : NL} {t : TP} {s d : Nat} (h : Gs k [t] k' s d) : Gn k t k' s d :=
 ⟨fun ch nm hc hv => by
  obtain ⟨h1, h2⟩ := h.kn ch nm hc hv
  have h1 : ((wk t ch nm).un || false) = false := h1
  rw [Bool.or_false] at h1
  exact ⟨h1, h2⟩, by have := h.sz; rw [szs_one] at this; exact this, by have := h.dp; rw [dps_one] at this; exact this, by have := h.hn; rw [hns_one] at this; exact this, h.tk t (List.mem_singleton.2 rfl)⟩
theorem pos3_g {k k' : NL} {t : TP} {s d : Nat} (hv : V .ex t) (ho : t.op = 4) (h : Gn k t k' s d) : Gn k ⟨4, [], 3, t.a, [], t.cap⟩ k' s d := by
 obtain ⟨o, x, n, a, ks, c⟩ := t
 obtain ⟨hx, hk⟩ := int_leaf hv ho
 obtain rfl : o = 4 := ho
 obtain rfl : x = [] := hx
 obtain rfl : ks = [] := hk
 have h1 : 1 ≤ s := Nat.le_trans (by rw [sz_eq]; show 1 ≤ 1 + 0; decide) h.sz
 have h2 : 1 ≤ d := Nat.le_trans (by rw [dp_eq]; show 1 ≤ 1 + 0; decide) h.dp
 have hkn : Kn k ⟨4, [], 3, a, [], c⟩ k' := Kn.plain (by decide) fun ch nm hc hv => by
  have := h.kn ch nm hc hv
  rw [wk_plain (by decide)] at this
  exact this
 exact ⟨hkn, by rw [sz_eq]; exact h1, by rw [dp_eq]; exact h2, fun y hy => by rw [hn_eq] at hy; exact absurd hy (by simp [own, hld, hns]), treeK (.nil _ _) (Nat.zero_le _) (Nat.zero_le _) (fun _ h => by cases h)⟩
theorem bs_ne {x y : List UInt8} {b : Bool} (h : ((bs x).data.toList == (bs y).data.toList) = b) : b = true ↔ x = y := by
 rw [bs_list, bs_list] at h
 rw [← h]
 simp
set_option maxHeartbeats 4000000 in
theorem gcall_c (D : Nat) (hD : D ≤ 50) (hs : SomeC (D + 1)) (ha : ArgsC (D + 1)) : NodeKC 35 .ex isAny (D + 1) 9 (4 * (D + 1) + 3) := by
 intro g ok k kok p z hp A hA
 refine ownT hm Tryz.func35 (by kernel_rfl) rfl rfl (fun _ _ => okHB_eq rfl) (fun _ _ => Nat.le_of_ble_eq_true rfl) ?_
 have hlen := ok.len
 refine wX ?_
 refine call1 (node_c _ _ _ _ _ _) ?_
 refine wX ?_
 refine callG (hs g ok 1 (by decide) k kok p z hp A hA) [0, 1] rfl ⟨rfl, rfl, trivial⟩ rfl fun i hi => ?_
 obtain ⟨l, ob, cap, k1, q1, z1, F1⟩ := i
 obtain ⟨hi, hl1⟩ := hi
 have hl1 : l.length = 1 := hl1
 obtain ⟨t, rfl⟩ := List.length_eq_one_iff.1 hl1
 obtain ⟨ob, rfl⟩ : ∃ b, ob = some b := by
  cases ob with
  | none => exact absurd (hi.nil rfl) (by simp)
  | some b => exact ⟨b, rfl⟩
 have hcap1 : 1 ≤ cap := hi.cap
 have hle : p ≤ q1 ∧ q1 ≤ g.l.length := hi.le
 have hv : V .ex t := hi.v t (List.mem_singleton.2 rfl)
 have hg0 : Gn k.l t k1.l (1 + 8 * (q1 - p)) (4 * (D + 1) - 1) := by
  exact Gs.un (s := 1 + 8 * (q1 - p)) hi.gs
 refine wX ?_
 refine Nd.mk ⟨rfl, by omega, by omega⟩ ?_
 refine wX ?_
 refine LdN.fld (.int .i64 t.op) rfl (fun w hw => hw.2.2.1) (nodesC_get [t] 0 0 (by decide) rfl) ?_
 refine wX ?_
 refine brd_eq (fun ho => ?_) (fun ho => ?_)
 ·refine wX ?_
  refine Nd.mk ⟨rfl, by omega, by omega⟩ ?_
  refine wX ?_
  refine LdN.fld (.int .i64 t.n) rfl (fun w hw => hw.2.2.1) (nodesC_get [t] 0 2 (by decide) rfl) ?_
  refine wX ?_
  refine brd_dec (fun hn => ?_) (fun hn => ?_)
  ·obtain ⟨hx0, hk0⟩ := int_leaf hv ho
   have hv1 : V .ex ⟨4, [], 3, t.a, [], t.cap⟩ := .int (by decide)
   have hg1 := pos3_g hv ho hg0
   have hf1 : ∀ w, TreeF w t → TreeF w ⟨4, [], 3, t.a, [], t.cap⟩ := fun w _ => f0 hg1.tk rfl
   refine wX ?_
   refine Nd.mk ⟨rfl, by omega, by omega⟩ ?_
   refine wX ?_
   refine EffW.appTo (i := 4) (q := 2) (ys := [_]) (nodesC [⟨4, [], 3, t.a, [], t.cap⟩]) 4 rfl rfl rfl rfl rfl rfl rfl (Nat.le_of_ble_eq_true rfl) (by simp [nodesC, nodeC, ho, hx0, hk0]) rfl ?_
   refine wX ?_
   refine callG (pick_c g ok q1 z1 4 ⟨by decide, by decide⟩ hle.2 F1 (fun w hw => (hA w (hi.f w hw).1).1)) [0, 1] rfl ⟨rfl, rfl, trivial⟩ rfl fun i hi2 => ?_
   obtain ⟨y, q2⟩ := i
   obtain ⟨j1, j2, j3, _⟩ := hi2
   have j1 : y < 4 := j1
   have j2 : q1 ≤ q2 := j2
   have j3 : q2 ≤ g.l.length := j3
   rcases (by omega : y = 0 ∨ y = 1 ∨ y = 2 ∨ y = 3) with rfl | rfl | rfl | rfl
   ·-- one of a list's texts; opers_g: the list's contract, opL: the list, 5: the row's entry, q2: the place of the numbers
    refine wXR ?_
    refine callG opers_g [] rfl trivial rfl fun rb _ => ?_
    refine wXR ?_
    refine SpecH.shut 5 rfl ?_
    refine callG (text_c g ok q2 z1 (by omega) F1 _ (fun w hw => (hA w (hi.f w hw).1).1) (some ⟨rb, 0, none⟩) opL _ ⟨by decide, by decide⟩ rfl (fun w hw => hw)) [0, 1, 5] rfl ⟨rfl, rfl, rfl, trivial⟩ rfl fun i hi2 => ?_
    obtain ⟨x, q3⟩ := i
    obtain ⟨hx, hq2, hq3⟩ := hi2
    have hx : x ∈ opL := hx
    have hq2 : q2 ≤ q3 := hq2
    have hq3 : q3 ≤ g.l.length := hq3
    have hxv := opL_v x hx
    refine wX ?_
    refine brd_intro (fun h7 => ?_) (fun h7 => ?_)
    ·obtain rfl : x = ix1 := (bs_ne h7).1 rfl
     refine wX ?_
     refine callG (pick_c g ok q3 z1 2 ⟨by decide, by decide⟩ hq3 F1 (fun w hw => (hA w (hi.f w hw).1).1)) [0, 1] rfl ⟨rfl, rfl, trivial⟩ rfl fun i hi3 => ?_
     obtain ⟨c, q4⟩ := i
     obtain ⟨c1, c2, c3', _⟩ := hi3
     have c1 : c < 2 := c1
     have c2 : q3 ≤ q4 := c2
     have c3' : q4 ≤ g.l.length := c3'
     have hcw : IntKind.i64.wrap (1 + (c : Int)) = ((1 + c : Nat) : Int) := by rw [wrap_i64 (by omega)]; omega
     (conv => whnf)
     refine VrN.norm hcw ?_
     refine wX ?_
     refine callG (hs g ok (1 + c) (by omega) k1 hi.kd q4 z1 (by omega) F1 (fun w hw => ⟨(hA w (hi.f w hw).1).1, (hi.f w hw).2.2⟩)) [0, 1] rfl ⟨rfl, rfl, trivial⟩ rfl fun j hj => ?_
     obtain ⟨l2, ob2, cap2, k2, q5, z2, F2⟩ := j
     obtain ⟨hj, hl2⟩ := hj
     have hl2 : l2.length = 1 + c := hl2
     have hle2 : q4 ≤ q5 ∧ q5 ≤ g.l.length := hj.le
     have hgs2 : Gs k1.l l2 k2.l (l2.length + 8 * (q5 - q4)) (4 * (D + 1) - 1) := hj.gs
     refine wX ?_
     refine app_any (n := 1) (m := l2.length) 4 (nodesC [(⟨4, [], 3, t.a, [], t.cap⟩ : TP)]) (nodesC l2) rfl hcap1 (fun h => isT (at0_nil hj.nil) (List.getElem?_eq_getElem h)) (nodesC_len _) (nodesC_plain _) (fun w hw j v hv => (hw.2.2.2.2.1 : SlAt (at0 ob2) (l2.length * 4) (nodesC l2) w).cell hv) ⟨⟨by show (1 + l2.length) * 56 ≤ _; omega, by show 1 + l2.length < _; omega⟩, by decide⟩ fun b3 c3 g3 => ?_
     rw [nodesC_app]
     refine wX ?_
     have e1 : 1 + l2.length = ([(⟨4, [], 3, t.a, [], t.cap⟩ : TP)] ++ l2).length := by simp; omega
     rw [e1]
     have hg : Gn k.l ⟨17, ix1, 0, some ⟨b3, 0, none⟩, [(⟨4, [], 3, t.a, [], t.cap⟩ : TP)] ++ l2, c3⟩ k2.l (9 + 8 * (q5 - p)) (4 * (D + 1) + 3) := (Gn.q (s := 1 + 8 * (q1 - p) + (l2.length + 8 * (q5 - q4))) (d := 4 * (D + 1) - 1) rfl (.some (by rw [← e1]; exact g3)) hxv.2 (by omega) (hg1.s.app hgs2)).le (by omega) (by omega)
     refine ⟨_, sealG _ _ _ _ _, ⟨⟨17, ix1, 0, some ⟨b3, 0, none⟩, [(⟨4, [], 3, t.a, [], t.cap⟩ : TP)] ++ l2, c3⟩, k2, q5, z2, _⟩, ⟨?_, trivial, hg, hj.kd, ⟨by show p ≤ q5; omega, hle2.2⟩, fun w hw => ?_⟩, rfl, ⟨wkE_refl _, wkE_refl _, wkH_nil _⟩⟩
     rotate_left
     ·obtain ⟨f1, f2, f3⟩ := hj.f w hw.1
      obtain ⟨f4, f5, f6⟩ := hi.f w f1
      exact ⟨f4, treeF hg.tk hw.2.1 rfl (allV (one_mem (hf1 w (f5 t (List.mem_singleton.2 rfl)))) f2), f3⟩
     exact V.cop (k := (⟨4, [], 3, t.a, [], t.cap⟩ : TP)) (l := l2) hxv.1 hv1 hj.v (by omega) (fun h => absurd h (by decide)) (fun h => absurd rfl h)
    ·have hx1 : x ≠ ix1 := fun h => by cases (bs_ne h7).2 h
     refine wX ?_
     refine brd_intro (fun h8 => ?_) (fun h8 => ?_)
     ·obtain rfl : x = ix2 := (bs_ne h8).1 rfl
      refine wX ?_
      refine callG (pick_c g ok q3 z1 2 ⟨by decide, by decide⟩ hq3 F1 (fun w hw => (hA w (hi.f w hw).1).1)) [0, 1] rfl ⟨rfl, rfl, trivial⟩ rfl fun i hi3 => ?_
      obtain ⟨c, q4⟩ := i
      obtain ⟨c1, c2, c3', _⟩ := hi3
      have c1 : c < 2 := c1
      have c2 : q3 ≤ q4 := c2
      have c3' : q4 ≤ g.l.length := c3'
      have hcw : IntKind.i64.wrap (2 + (c : Int)) = ((2 + c : Nat) : Int) := by rw [wrap_i64 (by omega)]; omega
      (conv => whnf)
      refine VrN.norm hcw ?_
      refine wX ?_
      refine callG (hs g ok (2 + c) (by omega) k1 hi.kd q4 z1 (by omega) F1 (fun w hw => ⟨(hA w (hi.f w hw).1).1, (hi.f w hw).2.2⟩)) [0, 1] rfl ⟨rfl, rfl, trivial⟩ rfl fun j hj => ?_
      obtain ⟨l2, ob2, cap2, k2, q5, z2, F2⟩ := j
      obtain ⟨hj, hl2⟩ := hj
      have hl2 : l2.length = 2 + c := hl2
      have hle2 : q4 ≤ q5 ∧ q5 ≤ g.l.length := hj.le
      have hgs2 : Gs k1.l l2 k2.l (l2.length + 8 * (q5 - q4)) (4 * (D + 1) - 1) := hj.gs
      refine wX ?_
      refine app_any (n := 1) (m := l2.length) 4 (nodesC [(⟨4, [], 3, t.a, [], t.cap⟩ : TP)]) (nodesC l2) rfl hcap1 (fun h => isT (at0_nil hj.nil) (List.getElem?_eq_getElem h)) (nodesC_len _) (nodesC_plain _) (fun w hw j v hv => (hw.2.2.2.2.1 : SlAt (at0 ob2) (l2.length * 4) (nodesC l2) w).cell hv) ⟨⟨by show (1 + l2.length) * 56 ≤ _; omega, by show 1 + l2.length < _; omega⟩, by decide⟩ fun b3 c3 g3 => ?_
      rw [nodesC_app]
      refine wX ?_
      have e1 : 1 + l2.length = ([(⟨4, [], 3, t.a, [], t.cap⟩ : TP)] ++ l2).length := by simp; omega
      rw [e1]
      have hg : Gn k.l ⟨17, ix2, 0, some ⟨b3, 0, none⟩, [(⟨4, [], 3, t.a, [], t.cap⟩ : TP)] ++ l2, c3⟩ k2.l (9 + 8 * (q5 - p)) (4 * (D + 1) + 3) := (Gn.q (s := 1 + 8 * (q1 - p) + (l2.length + 8 * (q5 - q4))) (d := 4 * (D + 1) - 1) rfl (.some (by rw [← e1]; exact g3)) hxv.2 (by omega) (hg1.s.app hgs2)).le (by omega) (by omega)
      refine ⟨_, sealG _ _ _ _ _, ⟨⟨17, ix2, 0, some ⟨b3, 0, none⟩, [(⟨4, [], 3, t.a, [], t.cap⟩ : TP)] ++ l2, c3⟩, k2, q5, z2, _⟩, ⟨?_, trivial, hg, hj.kd, ⟨by show p ≤ q5; omega, hle2.2⟩, fun w hw => ?_⟩, rfl, ⟨wkE_refl _, wkE_refl _, wkH_nil _⟩⟩
      rotate_left
      ·obtain ⟨f1, f2, f3⟩ := hj.f w hw.1
       obtain ⟨f4, f5, f6⟩ := hi.f w f1
       exact ⟨f4, treeF hg.tk hw.2.1 rfl (allV (one_mem (hf1 w (f5 t (List.mem_singleton.2 rfl)))) f2), f3⟩
      exact V.cop (k := (⟨4, [], 3, t.a, [], t.cap⟩ : TP)) (l := l2) hxv.1 hv1 hj.v (by omega) (fun _ => by omega) (fun _ h => absurd rfl h)
     ·have hx2 : x ≠ ix2 := fun h => by cases (bs_ne h8).2 h
      refine wX ?_
      refine callG (hs g ok (1) (by omega) k1 hi.kd q3 z1 (by omega) F1 (fun w hw => ⟨(hA w (hi.f w hw).1).1, (hi.f w hw).2.2⟩)) [0, 1] rfl ⟨rfl, rfl, trivial⟩ rfl fun j hj => ?_
      obtain ⟨l2, ob2, cap2, k2, q5, z2, F2⟩ := j
      obtain ⟨hj, hl2⟩ := hj
      have hl2 : l2.length = 1 := hl2
      have hle2 : q3 ≤ q5 ∧ q5 ≤ g.l.length := hj.le
      have hgs2 : Gs k1.l l2 k2.l (l2.length + 8 * (q5 - q3)) (4 * (D + 1) - 1) := hj.gs
      refine wX ?_
      refine app_any (n := 1) (m := l2.length) 4 (nodesC [(⟨4, [], 3, t.a, [], t.cap⟩ : TP)]) (nodesC l2) rfl hcap1 (fun h => isT (at0_nil hj.nil) (List.getElem?_eq_getElem h)) (nodesC_len _) (nodesC_plain _) (fun w hw j v hv => (hw.2.2.2.2.1 : SlAt (at0 ob2) (l2.length * 4) (nodesC l2) w).cell hv) ⟨⟨by show (1 + l2.length) * 56 ≤ _; omega, by show 1 + l2.length < _; omega⟩, by decide⟩ fun b3 c3 g3 => ?_
      rw [nodesC_app]
      refine wX ?_
      have e1 : 1 + l2.length = ([(⟨4, [], 3, t.a, [], t.cap⟩ : TP)] ++ l2).length := by simp; omega
      rw [e1]
      have hg : Gn k.l ⟨17, x, 0, some ⟨b3, 0, none⟩, [(⟨4, [], 3, t.a, [], t.cap⟩ : TP)] ++ l2, c3⟩ k2.l (9 + 8 * (q5 - p)) (4 * (D + 1) + 3) := (Gn.q (s := 1 + 8 * (q1 - p) + (l2.length + 8 * (q5 - q3))) (d := 4 * (D + 1) - 1) rfl (.some (by rw [← e1]; exact g3)) hxv.2 (by omega) (hg1.s.app hgs2)).le (by omega) (by omega)
      refine ⟨_, sealG _ _ _ _ _, ⟨⟨17, x, 0, some ⟨b3, 0, none⟩, [(⟨4, [], 3, t.a, [], t.cap⟩ : TP)] ++ l2, c3⟩, k2, q5, z2, _⟩, ⟨?_, trivial, hg, hj.kd, ⟨by show p ≤ q5; omega, hle2.2⟩, fun w hw => ?_⟩, rfl, ⟨wkE_refl _, wkE_refl _, wkH_nil _⟩⟩
      rotate_left
      ·obtain ⟨f1, f2, f3⟩ := hj.f w hw.1
       obtain ⟨f4, f5, f6⟩ := hi.f w f1
       exact ⟨f4, treeF hg.tk hw.2.1 rfl (allV (one_mem (hf1 w (f5 t (List.mem_singleton.2 rfl)))) f2), f3⟩
      exact V.cop (k := (⟨4, [], 3, t.a, [], t.cap⟩ : TP)) (l := l2) hxv.1 hv1 hj.v (by omega) (fun h => absurd h hx2) (fun _ _ => hl2)
   ·refine wXR ?_
    refine RwN.known (strsC setL) rfl fun rb => ?_
    refine wXR ?_
    refine SpecH.shut 5 rfl ?_
    refine callG (text_c g ok q2 z1 (by omega) F1 _ (fun w hw => (hA w (hi.f w hw).1).1) (some ⟨rb, 0, none⟩) setL _ ⟨by decide, by decide⟩ rfl (fun w hw => hw)) [0, 1, 5] rfl ⟨rfl, rfl, rfl, trivial⟩ rfl fun i hi2 => ?_
    obtain ⟨x, q3⟩ := i
    obtain ⟨hx, hq2, hq3⟩ := hi2
    have hx : x ∈ setL := hx
    have hq2 : q2 ≤ q3 := hq2
    have hq3 : q3 ≤ g.l.length := hq3
    have hxv := setL_v x hx
    refine wX ?_
    refine callG (hs g ok (1) (by omega) k1 hi.kd q3 z1 (by omega) F1 (fun w hw => ⟨(hA w (hi.f w hw).1).1, (hi.f w hw).2.2⟩)) [0, 1] rfl ⟨rfl, rfl, trivial⟩ rfl fun j hj => ?_
    obtain ⟨l2, ob2, cap2, k2, q5, z2, F2⟩ := j
    obtain ⟨hj, hl2⟩ := hj
    have hl2 : l2.length = 1 := hl2
    have hle2 : q3 ≤ q5 ∧ q5 ≤ g.l.length := hj.le
    have hgs2 : Gs k1.l l2 k2.l (l2.length + 8 * (q5 - q3)) (4 * (D + 1) - 1) := hj.gs
    refine wX ?_
    refine app_any (n := 1) (m := l2.length) 4 (nodesC [(⟨4, [], 3, t.a, [], t.cap⟩ : TP)]) (nodesC l2) rfl hcap1 (fun h => isT (at0_nil hj.nil) (List.getElem?_eq_getElem h)) (nodesC_len _) (nodesC_plain _) (fun w hw j v hv => (hw.2.2.2.2.1 : SlAt (at0 ob2) (l2.length * 4) (nodesC l2) w).cell hv) ⟨⟨by show (1 + l2.length) * 56 ≤ _; omega, by show 1 + l2.length < _; omega⟩, by decide⟩ fun b3 c3 g3 => ?_
    rw [nodesC_app]
    refine wX ?_
    have e1 : 1 + l2.length = ([(⟨4, [], 3, t.a, [], t.cap⟩ : TP)] ++ l2).length := by simp; omega
    rw [e1]
    have hg : Gn k.l ⟨17, x, 0, some ⟨b3, 0, none⟩, [(⟨4, [], 3, t.a, [], t.cap⟩ : TP)] ++ l2, c3⟩ k2.l (9 + 8 * (q5 - p)) (4 * (D + 1) + 3) := (Gn.q (s := 1 + 8 * (q1 - p) + (l2.length + 8 * (q5 - q3))) (d := 4 * (D + 1) - 1) rfl (.some (by rw [← e1]; exact g3)) hxv.2.2.2 (by omega) (hg1.s.app hgs2)).le (by omega) (by omega)
    refine ⟨_, sealG _ _ _ _ _, ⟨⟨17, x, 0, some ⟨b3, 0, none⟩, [(⟨4, [], 3, t.a, [], t.cap⟩ : TP)] ++ l2, c3⟩, k2, q5, z2, _⟩, ⟨?_, trivial, hg, hj.kd, ⟨by show p ≤ q5; omega, hle2.2⟩, fun w hw => ?_⟩, rfl, ⟨wkE_refl _, wkE_refl _, wkH_nil _⟩⟩
    rotate_left
    ·obtain ⟨f1, f2, f3⟩ := hj.f w hw.1
     obtain ⟨f4, f5, f6⟩ := hi.f w f1
     exact ⟨f4, treeF hg.tk hw.2.1 rfl (allV (one_mem (hf1 w (f5 t (List.mem_singleton.2 rfl)))) f2), f3⟩
    obtain ⟨u, rfl⟩ := List.length_eq_one_iff.1 hl2
    exact .cset hxv.1 hxv.2.1 hxv.2.2.1 hv1 (hj.v u (List.mem_singleton.2 rfl))
   ·-- a call with a name and arguments; 0: the number, (⟨4, [], 3, t.a, [], t.cap⟩ : TP): the first expr
    refine wXR ?_
    refine callG methods_g [] rfl trivial rfl fun rb _ => ?_
    refine wXR ?_
    refine SpecH.shut 5 rfl ?_
    refine callG (text_c g ok q2 z1 (by omega) F1 _ (fun w hw => (hA w (hi.f w hw).1).1) (some ⟨rb, 0, none⟩) metL _ ⟨by decide, by decide⟩ rfl (fun w hw => hw)) [0, 1, 5] rfl ⟨rfl, rfl, rfl, trivial⟩ rfl fun i hi2 => ?_
    obtain ⟨x, q3⟩ := i
    obtain ⟨hx, hq2, hq3⟩ := hi2
    have hx : x ∈ metL := hx
    have hq2 : q2 ≤ q3 := hq2
    have hq3 : q3 ≤ g.l.length := hq3
    have hxv := metL_v x hx
    refine wX ?_
    refine callG (pick_c g ok q3 z1 4 ⟨by decide, by decide⟩ hq3 F1 (fun w hw => (hA w (hi.f w hw).1).1)) [0, 1] rfl ⟨rfl, rfl, trivial⟩ rfl fun i hi3 => ?_
    obtain ⟨c, q4⟩ := i
    obtain ⟨c1, c2, c3', _⟩ := hi3
    have c1 : c < 4 := c1
    have c2 : q3 ≤ q4 := c2
    have c3' : q4 ≤ g.l.length := c3'
    obtain ⟨n, hn, hn1⟩ : ∃ n : Int, IntKind.i64.wrap ((c : Int).tdiv 3) = n ∧ (n = 0 ∨ n = 1) := by
     rcases (by omega : c = 0 ∨ c = 1 ∨ c = 2 ∨ c = 3) with rfl | rfl | rfl | rfl
     ·exact ⟨0, by decide, .inl rfl⟩
     ·exact ⟨0, by decide, .inl rfl⟩
     ·exact ⟨0, by decide, .inl rfl⟩
     ·exact ⟨1, by decide, .inr rfl⟩
    refine wX ?_
    refine callG (ha g ok true k1 hi.kd q4 z1 c3' F1 (fun w hw => ⟨(hA w (hi.f w hw).1).1, (hi.f w hw).2.2⟩)) [0, 1] rfl ⟨rfl, rfl, trivial⟩ rfl fun j hj => ?_
    obtain ⟨l2, b2, a2, cap2, k2, q5, z2, F2⟩ := j
    have hle2 : q4 ≤ q5 ∧ q5 ≤ g.l.length := hj.le
    have hgs2 : Gs k1.l (l2 ++ b2) k2.l (8 * (q5 - q4)) (4 * (D + 1) + 1) := hj.gs
    have hll := len_szs (l2 ++ b2)
    have hls := hgs2.sz
    refine wX ?_
    refine app_any (n := 1) (m := (l2 ++ b2).length) 4 (nodesC [(⟨4, [], 3, t.a, [], t.cap⟩ : TP)]) (nodesC (l2 ++ b2)) rfl hcap1 (fun h => isT hj.row.1 (List.getElem?_eq_getElem h)) (nodesC_len _) (nodesC_plain _) (fun w hw j v hv => (hj.f w hw.1).2.1.1.cell hv) ⟨⟨by show (1 + (l2 ++ b2).length) * 56 ≤ _; omega, by show 1 + (l2 ++ b2).length < _; omega⟩, by decide⟩ fun b3 c3 g3 => ?_
    rw [nodesC_app]
    refine wX ?_
    have e1 : 1 + (l2 ++ b2).length = ([(⟨4, [], 3, t.a, [], t.cap⟩ : TP)] ++ (l2 ++ b2)).length := by simp; omega
    rw [e1, hn]
    have hg : Gn k.l ⟨17, x, n, some ⟨b3, 0, none⟩, [(⟨4, [], 3, t.a, [], t.cap⟩ : TP)] ++ (l2 ++ b2), c3⟩ k2.l (9 + 8 * (q5 - p)) (4 * (D + 1) + 3) := (Gn.q (s := 1 + 8 * (q1 - p) + 8 * (q5 - q4)) (d := 4 * (D + 1) + 1) rfl (.some (by rw [← e1]; exact g3)) hxv.2.2.2 (by omega) ((hg1.le (Nat.le_refl _) (by omega)).s.app hgs2)).le (by omega) (by omega)
    refine ⟨_, sealG _ _ _ _ _, ⟨⟨17, x, n, some ⟨b3, 0, none⟩, [(⟨4, [], 3, t.a, [], t.cap⟩ : TP)] ++ (l2 ++ b2), c3⟩, k2, q5, z2, _⟩, ⟨V.call (k := (⟨4, [], 3, t.a, [], t.cap⟩ : TP)) (l := l2) (b := b2) hxv.1 hxv.2.1 hxv.2.2.1 hn1 hv1 hj.vl hj.vb hj.b1, trivial, hg, hj.kd, ⟨by show p ≤ q5; omega, hle2.2⟩, fun w hw => ?_⟩, rfl, ⟨wkE_refl _, wkE_refl _, wkH_nil _⟩⟩
    obtain ⟨f1, f2, f3⟩ := hj.f w hw.1
    obtain ⟨f4, f5, f6⟩ := hi.f w f1
    exact ⟨f4, treeF hg.tk hw.2.1 rfl (allV (one_mem (hf1 w (f5 t (List.mem_singleton.2 rfl)))) f2.2), f3⟩
   ·-- a call with a name and arguments; 1: the number, (⟨4, [], 3, t.a, [], t.cap⟩ : TP): the first expr
    refine wXR ?_
    refine callG methods_g [] rfl trivial rfl fun rb _ => ?_
    refine wXR ?_
    refine SpecH.shut 5 rfl ?_
    refine callG (text_c g ok q2 z1 (by omega) F1 _ (fun w hw => (hA w (hi.f w hw).1).1) (some ⟨rb, 0, none⟩) metL _ ⟨by decide, by decide⟩ rfl (fun w hw => hw)) [0, 1, 5] rfl ⟨rfl, rfl, rfl, trivial⟩ rfl fun i hi2 => ?_
    obtain ⟨x, q3⟩ := i
    obtain ⟨hx, hq2, hq3⟩ := hi2
    have hx : x ∈ metL := hx
    have hq2 : q2 ≤ q3 := hq2
    have hq3 : q3 ≤ g.l.length := hq3
    have hxv := metL_v x hx
    refine wX ?_
    refine callG (pick_c g ok q3 z1 4 ⟨by decide, by decide⟩ hq3 F1 (fun w hw => (hA w (hi.f w hw).1).1)) [0, 1] rfl ⟨rfl, rfl, trivial⟩ rfl fun i hi3 => ?_
    obtain ⟨c, q4⟩ := i
    obtain ⟨c1, c2, c3', _⟩ := hi3
    have c1 : c < 4 := c1
    have c2 : q3 ≤ q4 := c2
    have c3' : q4 ≤ g.l.length := c3'
    obtain ⟨n, hn, hn1⟩ : ∃ n : Int, IntKind.i64.wrap ((c : Int).tdiv 3) = n ∧ (n = 0 ∨ n = 1) := by
     rcases (by omega : c = 0 ∨ c = 1 ∨ c = 2 ∨ c = 3) with rfl | rfl | rfl | rfl
     ·exact ⟨0, by decide, .inl rfl⟩
     ·exact ⟨0, by decide, .inl rfl⟩
     ·exact ⟨0, by decide, .inl rfl⟩
     ·exact ⟨1, by decide, .inr rfl⟩
    refine wX ?_
    refine callG (ha g ok true k1 hi.kd q4 z1 c3' F1 (fun w hw => ⟨(hA w (hi.f w hw).1).1, (hi.f w hw).2.2⟩)) [0, 1] rfl ⟨rfl, rfl, trivial⟩ rfl fun j hj => ?_
    obtain ⟨l2, b2, a2, cap2, k2, q5, z2, F2⟩ := j
    have hle2 : q4 ≤ q5 ∧ q5 ≤ g.l.length := hj.le
    have hgs2 : Gs k1.l (l2 ++ b2) k2.l (8 * (q5 - q4)) (4 * (D + 1) + 1) := hj.gs
    have hll := len_szs (l2 ++ b2)
    have hls := hgs2.sz
    refine wX ?_
    refine app_any (n := 1) (m := (l2 ++ b2).length) 4 (nodesC [(⟨4, [], 3, t.a, [], t.cap⟩ : TP)]) (nodesC (l2 ++ b2)) rfl hcap1 (fun h => isT hj.row.1 (List.getElem?_eq_getElem h)) (nodesC_len _) (nodesC_plain _) (fun w hw j v hv => (hj.f w hw.1).2.1.1.cell hv) ⟨⟨by show (1 + (l2 ++ b2).length) * 56 ≤ _; omega, by show 1 + (l2 ++ b2).length < _; omega⟩, by decide⟩ fun b3 c3 g3 => ?_
    rw [nodesC_app]
    refine wX ?_
    have e1 : 1 + (l2 ++ b2).length = ([(⟨4, [], 3, t.a, [], t.cap⟩ : TP)] ++ (l2 ++ b2)).length := by simp; omega
    rw [e1, hn]
    have hg : Gn k.l ⟨17, x, n, some ⟨b3, 0, none⟩, [(⟨4, [], 3, t.a, [], t.cap⟩ : TP)] ++ (l2 ++ b2), c3⟩ k2.l (9 + 8 * (q5 - p)) (4 * (D + 1) + 3) := (Gn.q (s := 1 + 8 * (q1 - p) + 8 * (q5 - q4)) (d := 4 * (D + 1) + 1) rfl (.some (by rw [← e1]; exact g3)) hxv.2.2.2 (by omega) ((hg1.le (Nat.le_refl _) (by omega)).s.app hgs2)).le (by omega) (by omega)
    refine ⟨_, sealG _ _ _ _ _, ⟨⟨17, x, n, some ⟨b3, 0, none⟩, [(⟨4, [], 3, t.a, [], t.cap⟩ : TP)] ++ (l2 ++ b2), c3⟩, k2, q5, z2, _⟩, ⟨V.call (k := (⟨4, [], 3, t.a, [], t.cap⟩ : TP)) (l := l2) (b := b2) hxv.1 hxv.2.1 hxv.2.2.1 hn1 hv1 hj.vl hj.vb hj.b1, trivial, hg, hj.kd, ⟨by show p ≤ q5; omega, hle2.2⟩, fun w hw => ?_⟩, rfl, ⟨wkE_refl _, wkE_refl _, wkH_nil _⟩⟩
    obtain ⟨f1, f2, f3⟩ := hj.f w hw.1
    obtain ⟨f4, f5, f6⟩ := hi.f w f1
    exact ⟨f4, treeF hg.tk hw.2.1 rfl (allV (one_mem (hf1 w (f5 t (List.mem_singleton.2 rfl)))) f2.2), f3⟩
  ·have hv1 := hv
   have hg1 := hg0
   have hf1 : ∀ w, TreeF w t → TreeF w t := fun _ h => h
   refine wX ?_
   refine callG (pick_c g ok q1 z1 4 ⟨by decide, by decide⟩ hle.2 F1 (fun w hw => (hA w (hi.f w hw).1).1)) [0, 1] rfl ⟨rfl, rfl, trivial⟩ rfl fun i hi2 => ?_
   obtain ⟨y, q2⟩ := i
   obtain ⟨j1, j2, j3, _⟩ := hi2
   have j1 : y < 4 := j1
   have j2 : q1 ≤ q2 := j2
   have j3 : q2 ≤ g.l.length := j3
   rcases (by omega : y = 0 ∨ y = 1 ∨ y = 2 ∨ y = 3) with rfl | rfl | rfl | rfl
   ·-- one of a list's texts; opers_g: the list's contract, opL: the list, 5: the row's entry, q2: the place of the numbers
    refine wXR ?_
    refine callG opers_g [] rfl trivial rfl fun rb _ => ?_
    refine wXR ?_
    refine SpecH.shut 5 rfl ?_
    refine callG (text_c g ok q2 z1 (by omega) F1 _ (fun w hw => (hA w (hi.f w hw).1).1) (some ⟨rb, 0, none⟩) opL _ ⟨by decide, by decide⟩ rfl (fun w hw => hw)) [0, 1, 5] rfl ⟨rfl, rfl, rfl, trivial⟩ rfl fun i hi2 => ?_
    obtain ⟨x, q3⟩ := i
    obtain ⟨hx, hq2, hq3⟩ := hi2
    have hx : x ∈ opL := hx
    have hq2 : q2 ≤ q3 := hq2
    have hq3 : q3 ≤ g.l.length := hq3
    have hxv := opL_v x hx
    refine wX ?_
    refine brd_intro (fun h7 => ?_) (fun h7 => ?_)
    ·obtain rfl : x = ix1 := (bs_ne h7).1 rfl
     refine wX ?_
     refine callG (pick_c g ok q3 z1 2 ⟨by decide, by decide⟩ hq3 F1 (fun w hw => (hA w (hi.f w hw).1).1)) [0, 1] rfl ⟨rfl, rfl, trivial⟩ rfl fun i hi3 => ?_
     obtain ⟨c, q4⟩ := i
     obtain ⟨c1, c2, c3', _⟩ := hi3
     have c1 : c < 2 := c1
     have c2 : q3 ≤ q4 := c2
     have c3' : q4 ≤ g.l.length := c3'
     have hcw : IntKind.i64.wrap (1 + (c : Int)) = ((1 + c : Nat) : Int) := by rw [wrap_i64 (by omega)]; omega
     (conv => whnf)
     refine VrN.norm hcw ?_
     refine wX ?_
     refine callG (hs g ok (1 + c) (by omega) k1 hi.kd q4 z1 (by omega) F1 (fun w hw => ⟨(hA w (hi.f w hw).1).1, (hi.f w hw).2.2⟩)) [0, 1] rfl ⟨rfl, rfl, trivial⟩ rfl fun j hj => ?_
     obtain ⟨l2, ob2, cap2, k2, q5, z2, F2⟩ := j
     obtain ⟨hj, hl2⟩ := hj
     have hl2 : l2.length = 1 + c := hl2
     have hle2 : q4 ≤ q5 ∧ q5 ≤ g.l.length := hj.le
     have hgs2 : Gs k1.l l2 k2.l (l2.length + 8 * (q5 - q4)) (4 * (D + 1) - 1) := hj.gs
     refine wX ?_
     refine app_any (n := 1) (m := l2.length) 4 (nodesC [t]) (nodesC l2) rfl hcap1 (fun h => isT (at0_nil hj.nil) (List.getElem?_eq_getElem h)) (nodesC_len _) (nodesC_plain _) (fun w hw j v hv => (hw.2.2.2.2.1 : SlAt (at0 ob2) (l2.length * 4) (nodesC l2) w).cell hv) ⟨⟨by show (1 + l2.length) * 56 ≤ _; omega, by show 1 + l2.length < _; omega⟩, by decide⟩ fun b3 c3 g3 => ?_
     rw [nodesC_app]
     refine wX ?_
     have e1 : 1 + l2.length = ([t] ++ l2).length := by simp; omega
     rw [e1]
     have hg : Gn k.l ⟨17, ix1, 0, some ⟨b3, 0, none⟩, [t] ++ l2, c3⟩ k2.l (9 + 8 * (q5 - p)) (4 * (D + 1) + 3) := (Gn.q (s := 1 + 8 * (q1 - p) + (l2.length + 8 * (q5 - q4))) (d := 4 * (D + 1) - 1) rfl (.some (by rw [← e1]; exact g3)) hxv.2 (by omega) (hg1.s.app hgs2)).le (by omega) (by omega)
     refine ⟨_, sealG _ _ _ _ _, ⟨⟨17, ix1, 0, some ⟨b3, 0, none⟩, [t] ++ l2, c3⟩, k2, q5, z2, _⟩, ⟨?_, trivial, hg, hj.kd, ⟨by show p ≤ q5; omega, hle2.2⟩, fun w hw => ?_⟩, rfl, ⟨wkE_refl _, wkE_refl _, wkH_nil _⟩⟩
     rotate_left
     ·obtain ⟨f1, f2, f3⟩ := hj.f w hw.1
      obtain ⟨f4, f5, f6⟩ := hi.f w f1
      exact ⟨f4, treeF hg.tk hw.2.1 rfl (allV (one_mem (hf1 w (f5 t (List.mem_singleton.2 rfl)))) f2), f3⟩
     exact V.cop (k := t) (l := l2) hxv.1 hv1 hj.v (by omega) (fun h => absurd h (by decide)) (fun h => absurd rfl h)
    ·have hx1 : x ≠ ix1 := fun h => by cases (bs_ne h7).2 h
     refine wX ?_
     refine brd_intro (fun h8 => ?_) (fun h8 => ?_)
     ·obtain rfl : x = ix2 := (bs_ne h8).1 rfl
      refine wX ?_
      refine callG (pick_c g ok q3 z1 2 ⟨by decide, by decide⟩ hq3 F1 (fun w hw => (hA w (hi.f w hw).1).1)) [0, 1] rfl ⟨rfl, rfl, trivial⟩ rfl fun i hi3 => ?_
      obtain ⟨c, q4⟩ := i
      obtain ⟨c1, c2, c3', _⟩ := hi3
      have c1 : c < 2 := c1
      have c2 : q3 ≤ q4 := c2
      have c3' : q4 ≤ g.l.length := c3'
      have hcw : IntKind.i64.wrap (2 + (c : Int)) = ((2 + c : Nat) : Int) := by rw [wrap_i64 (by omega)]; omega
      (conv => whnf)
      refine VrN.norm hcw ?_
      refine wX ?_
      refine callG (hs g ok (2 + c) (by omega) k1 hi.kd q4 z1 (by omega) F1 (fun w hw => ⟨(hA w (hi.f w hw).1).1, (hi.f w hw).2.2⟩)) [0, 1] rfl ⟨rfl, rfl, trivial⟩ rfl fun j hj => ?_
      obtain ⟨l2, ob2, cap2, k2, q5, z2, F2⟩ := j
      obtain ⟨hj, hl2⟩ := hj
      have hl2 : l2.length = 2 + c := hl2
      have hle2 : q4 ≤ q5 ∧ q5 ≤ g.l.length := hj.le
      have hgs2 : Gs k1.l l2 k2.l (l2.length + 8 * (q5 - q4)) (4 * (D + 1) - 1) := hj.gs
      refine wX ?_
      refine app_any (n := 1) (m := l2.length) 4 (nodesC [t]) (nodesC l2) rfl hcap1 (fun h => isT (at0_nil hj.nil) (List.getElem?_eq_getElem h)) (nodesC_len _) (nodesC_plain _) (fun w hw j v hv => (hw.2.2.2.2.1 : SlAt (at0 ob2) (l2.length * 4) (nodesC l2) w).cell hv) ⟨⟨by show (1 + l2.length) * 56 ≤ _; omega, by show 1 + l2.length < _; omega⟩, by decide⟩ fun b3 c3 g3 => ?_
      rw [nodesC_app]
      refine wX ?_
      have e1 : 1 + l2.length = ([t] ++ l2).length := by simp; omega
      rw [e1]
      have hg : Gn k.l ⟨17, ix2, 0, some ⟨b3, 0, none⟩, [t] ++ l2, c3⟩ k2.l (9 + 8 * (q5 - p)) (4 * (D + 1) + 3) := (Gn.q (s := 1 + 8 * (q1 - p) + (l2.length + 8 * (q5 - q4))) (d := 4 * (D + 1) - 1) rfl (.some (by rw [← e1]; exact g3)) hxv.2 (by omega) (hg1.s.app hgs2)).le (by omega) (by omega)
      refine ⟨_, sealG _ _ _ _ _, ⟨⟨17, ix2, 0, some ⟨b3, 0, none⟩, [t] ++ l2, c3⟩, k2, q5, z2, _⟩, ⟨?_, trivial, hg, hj.kd, ⟨by show p ≤ q5; omega, hle2.2⟩, fun w hw => ?_⟩, rfl, ⟨wkE_refl _, wkE_refl _, wkH_nil _⟩⟩
      rotate_left
      ·obtain ⟨f1, f2, f3⟩ := hj.f w hw.1
       obtain ⟨f4, f5, f6⟩ := hi.f w f1
       exact ⟨f4, treeF hg.tk hw.2.1 rfl (allV (one_mem (hf1 w (f5 t (List.mem_singleton.2 rfl)))) f2), f3⟩
      exact V.cop (k := t) (l := l2) hxv.1 hv1 hj.v (by omega) (fun _ => by omega) (fun _ h => absurd rfl h)
     ·have hx2 : x ≠ ix2 := fun h => by cases (bs_ne h8).2 h
      refine wX ?_
      refine callG (hs g ok (1) (by omega) k1 hi.kd q3 z1 (by omega) F1 (fun w hw => ⟨(hA w (hi.f w hw).1).1, (hi.f w hw).2.2⟩)) [0, 1] rfl ⟨rfl, rfl, trivial⟩ rfl fun j hj => ?_
      obtain ⟨l2, ob2, cap2, k2, q5, z2, F2⟩ := j
      obtain ⟨hj, hl2⟩ := hj
      have hl2 : l2.length = 1 := hl2
      have hle2 : q3 ≤ q5 ∧ q5 ≤ g.l.length := hj.le
      have hgs2 : Gs k1.l l2 k2.l (l2.length + 8 * (q5 - q3)) (4 * (D + 1) - 1) := hj.gs
      refine wX ?_
      refine app_any (n := 1) (m := l2.length) 4 (nodesC [t]) (nodesC l2) rfl hcap1 (fun h => isT (at0_nil hj.nil) (List.getElem?_eq_getElem h)) (nodesC_len _) (nodesC_plain _) (fun w hw j v hv => (hw.2.2.2.2.1 : SlAt (at0 ob2) (l2.length * 4) (nodesC l2) w).cell hv) ⟨⟨by show (1 + l2.length) * 56 ≤ _; omega, by show 1 + l2.length < _; omega⟩, by decide⟩ fun b3 c3 g3 => ?_
      rw [nodesC_app]
      refine wX ?_
      have e1 : 1 + l2.length = ([t] ++ l2).length := by simp; omega
      rw [e1]
      have hg : Gn k.l ⟨17, x, 0, some ⟨b3, 0, none⟩, [t] ++ l2, c3⟩ k2.l (9 + 8 * (q5 - p)) (4 * (D + 1) + 3) := (Gn.q (s := 1 + 8 * (q1 - p) + (l2.length + 8 * (q5 - q3))) (d := 4 * (D + 1) - 1) rfl (.some (by rw [← e1]; exact g3)) hxv.2 (by omega) (hg1.s.app hgs2)).le (by omega) (by omega)
      refine ⟨_, sealG _ _ _ _ _, ⟨⟨17, x, 0, some ⟨b3, 0, none⟩, [t] ++ l2, c3⟩, k2, q5, z2, _⟩, ⟨?_, trivial, hg, hj.kd, ⟨by show p ≤ q5; omega, hle2.2⟩, fun w hw => ?_⟩, rfl, ⟨wkE_refl _, wkE_refl _, wkH_nil _⟩⟩
      rotate_left
      ·obtain ⟨f1, f2, f3⟩ := hj.f w hw.1
       obtain ⟨f4, f5, f6⟩ := hi.f w f1
       exact ⟨f4, treeF hg.tk hw.2.1 rfl (allV (one_mem (hf1 w (f5 t (List.mem_singleton.2 rfl)))) f2), f3⟩
      exact V.cop (k := t) (l := l2) hxv.1 hv1 hj.v (by omega) (fun h => absurd h hx2) (fun _ _ => hl2)
   ·refine wXR ?_
    refine RwN.known (strsC setL) rfl fun rb => ?_
    refine wXR ?_
    refine SpecH.shut 5 rfl ?_
    refine callG (text_c g ok q2 z1 (by omega) F1 _ (fun w hw => (hA w (hi.f w hw).1).1) (some ⟨rb, 0, none⟩) setL _ ⟨by decide, by decide⟩ rfl (fun w hw => hw)) [0, 1, 5] rfl ⟨rfl, rfl, rfl, trivial⟩ rfl fun i hi2 => ?_
    obtain ⟨x, q3⟩ := i
    obtain ⟨hx, hq2, hq3⟩ := hi2
    have hx : x ∈ setL := hx
    have hq2 : q2 ≤ q3 := hq2
    have hq3 : q3 ≤ g.l.length := hq3
    have hxv := setL_v x hx
    refine wX ?_
    refine callG (hs g ok (1) (by omega) k1 hi.kd q3 z1 (by omega) F1 (fun w hw => ⟨(hA w (hi.f w hw).1).1, (hi.f w hw).2.2⟩)) [0, 1] rfl ⟨rfl, rfl, trivial⟩ rfl fun j hj => ?_
    obtain ⟨l2, ob2, cap2, k2, q5, z2, F2⟩ := j
    obtain ⟨hj, hl2⟩ := hj
    have hl2 : l2.length = 1 := hl2
    have hle2 : q3 ≤ q5 ∧ q5 ≤ g.l.length := hj.le
    have hgs2 : Gs k1.l l2 k2.l (l2.length + 8 * (q5 - q3)) (4 * (D + 1) - 1) := hj.gs
    refine wX ?_
    refine app_any (n := 1) (m := l2.length) 4 (nodesC [t]) (nodesC l2) rfl hcap1 (fun h => isT (at0_nil hj.nil) (List.getElem?_eq_getElem h)) (nodesC_len _) (nodesC_plain _) (fun w hw j v hv => (hw.2.2.2.2.1 : SlAt (at0 ob2) (l2.length * 4) (nodesC l2) w).cell hv) ⟨⟨by show (1 + l2.length) * 56 ≤ _; omega, by show 1 + l2.length < _; omega⟩, by decide⟩ fun b3 c3 g3 => ?_
    rw [nodesC_app]
    refine wX ?_
    have e1 : 1 + l2.length = ([t] ++ l2).length := by simp; omega
    rw [e1]
    have hg : Gn k.l ⟨17, x, 0, some ⟨b3, 0, none⟩, [t] ++ l2, c3⟩ k2.l (9 + 8 * (q5 - p)) (4 * (D + 1) + 3) := (Gn.q (s := 1 + 8 * (q1 - p) + (l2.length + 8 * (q5 - q3))) (d := 4 * (D + 1) - 1) rfl (.some (by rw [← e1]; exact g3)) hxv.2.2.2 (by omega) (hg1.s.app hgs2)).le (by omega) (by omega)
    refine ⟨_, sealG _ _ _ _ _, ⟨⟨17, x, 0, some ⟨b3, 0, none⟩, [t] ++ l2, c3⟩, k2, q5, z2, _⟩, ⟨?_, trivial, hg, hj.kd, ⟨by show p ≤ q5; omega, hle2.2⟩, fun w hw => ?_⟩, rfl, ⟨wkE_refl _, wkE_refl _, wkH_nil _⟩⟩
    rotate_left
    ·obtain ⟨f1, f2, f3⟩ := hj.f w hw.1
     obtain ⟨f4, f5, f6⟩ := hi.f w f1
     exact ⟨f4, treeF hg.tk hw.2.1 rfl (allV (one_mem (hf1 w (f5 t (List.mem_singleton.2 rfl)))) f2), f3⟩
    obtain ⟨u, rfl⟩ := List.length_eq_one_iff.1 hl2
    exact .cset hxv.1 hxv.2.1 hxv.2.2.1 hv1 (hj.v u (List.mem_singleton.2 rfl))
   ·-- a call with a name and arguments; 0: the number, t: the first expr
    refine wXR ?_
    refine callG methods_g [] rfl trivial rfl fun rb _ => ?_
    refine wXR ?_
    refine SpecH.shut 5 rfl ?_
    refine callG (text_c g ok q2 z1 (by omega) F1 _ (fun w hw => (hA w (hi.f w hw).1).1) (some ⟨rb, 0, none⟩) metL _ ⟨by decide, by decide⟩ rfl (fun w hw => hw)) [0, 1, 5] rfl ⟨rfl, rfl, rfl, trivial⟩ rfl fun i hi2 => ?_
    obtain ⟨x, q3⟩ := i
    obtain ⟨hx, hq2, hq3⟩ := hi2
    have hx : x ∈ metL := hx
    have hq2 : q2 ≤ q3 := hq2
    have hq3 : q3 ≤ g.l.length := hq3
    have hxv := metL_v x hx
    refine wX ?_
    refine callG (pick_c g ok q3 z1 4 ⟨by decide, by decide⟩ hq3 F1 (fun w hw => (hA w (hi.f w hw).1).1)) [0, 1] rfl ⟨rfl, rfl, trivial⟩ rfl fun i hi3 => ?_
    obtain ⟨c, q4⟩ := i
    obtain ⟨c1, c2, c3', _⟩ := hi3
    have c1 : c < 4 := c1
    have c2 : q3 ≤ q4 := c2
    have c3' : q4 ≤ g.l.length := c3'
    obtain ⟨n, hn, hn1⟩ : ∃ n : Int, IntKind.i64.wrap ((c : Int).tdiv 3) = n ∧ (n = 0 ∨ n = 1) := by
     rcases (by omega : c = 0 ∨ c = 1 ∨ c = 2 ∨ c = 3) with rfl | rfl | rfl | rfl
     ·exact ⟨0, by decide, .inl rfl⟩
     ·exact ⟨0, by decide, .inl rfl⟩
     ·exact ⟨0, by decide, .inl rfl⟩
     ·exact ⟨1, by decide, .inr rfl⟩
    refine wX ?_
    refine callG (ha g ok true k1 hi.kd q4 z1 c3' F1 (fun w hw => ⟨(hA w (hi.f w hw).1).1, (hi.f w hw).2.2⟩)) [0, 1] rfl ⟨rfl, rfl, trivial⟩ rfl fun j hj => ?_
    obtain ⟨l2, b2, a2, cap2, k2, q5, z2, F2⟩ := j
    have hle2 : q4 ≤ q5 ∧ q5 ≤ g.l.length := hj.le
    have hgs2 : Gs k1.l (l2 ++ b2) k2.l (8 * (q5 - q4)) (4 * (D + 1) + 1) := hj.gs
    have hll := len_szs (l2 ++ b2)
    have hls := hgs2.sz
    refine wX ?_
    refine app_any (n := 1) (m := (l2 ++ b2).length) 4 (nodesC [t]) (nodesC (l2 ++ b2)) rfl hcap1 (fun h => isT hj.row.1 (List.getElem?_eq_getElem h)) (nodesC_len _) (nodesC_plain _) (fun w hw j v hv => (hj.f w hw.1).2.1.1.cell hv) ⟨⟨by show (1 + (l2 ++ b2).length) * 56 ≤ _; omega, by show 1 + (l2 ++ b2).length < _; omega⟩, by decide⟩ fun b3 c3 g3 => ?_
    rw [nodesC_app]
    refine wX ?_
    have e1 : 1 + (l2 ++ b2).length = ([t] ++ (l2 ++ b2)).length := by simp; omega
    rw [e1, hn]
    have hg : Gn k.l ⟨17, x, n, some ⟨b3, 0, none⟩, [t] ++ (l2 ++ b2), c3⟩ k2.l (9 + 8 * (q5 - p)) (4 * (D + 1) + 3) := (Gn.q (s := 1 + 8 * (q1 - p) + 8 * (q5 - q4)) (d := 4 * (D + 1) + 1) rfl (.some (by rw [← e1]; exact g3)) hxv.2.2.2 (by omega) ((hg1.le (Nat.le_refl _) (by omega)).s.app hgs2)).le (by omega) (by omega)
    refine ⟨_, sealG _ _ _ _ _, ⟨⟨17, x, n, some ⟨b3, 0, none⟩, [t] ++ (l2 ++ b2), c3⟩, k2, q5, z2, _⟩, ⟨V.call (k := t) (l := l2) (b := b2) hxv.1 hxv.2.1 hxv.2.2.1 hn1 hv1 hj.vl hj.vb hj.b1, trivial, hg, hj.kd, ⟨by show p ≤ q5; omega, hle2.2⟩, fun w hw => ?_⟩, rfl, ⟨wkE_refl _, wkE_refl _, wkH_nil _⟩⟩
    obtain ⟨f1, f2, f3⟩ := hj.f w hw.1
    obtain ⟨f4, f5, f6⟩ := hi.f w f1
    exact ⟨f4, treeF hg.tk hw.2.1 rfl (allV (one_mem (hf1 w (f5 t (List.mem_singleton.2 rfl)))) f2.2), f3⟩
   ·-- a call with a name and arguments; 1: the number, t: the first expr
    refine wXR ?_
    refine callG methods_g [] rfl trivial rfl fun rb _ => ?_
    refine wXR ?_
    refine SpecH.shut 5 rfl ?_
    refine callG (text_c g ok q2 z1 (by omega) F1 _ (fun w hw => (hA w (hi.f w hw).1).1) (some ⟨rb, 0, none⟩) metL _ ⟨by decide, by decide⟩ rfl (fun w hw => hw)) [0, 1, 5] rfl ⟨rfl, rfl, rfl, trivial⟩ rfl fun i hi2 => ?_
    obtain ⟨x, q3⟩ := i
    obtain ⟨hx, hq2, hq3⟩ := hi2
    have hx : x ∈ metL := hx
    have hq2 : q2 ≤ q3 := hq2
    have hq3 : q3 ≤ g.l.length := hq3
    have hxv := metL_v x hx
    refine wX ?_
    refine callG (pick_c g ok q3 z1 4 ⟨by decide, by decide⟩ hq3 F1 (fun w hw => (hA w (hi.f w hw).1).1)) [0, 1] rfl ⟨rfl, rfl, trivial⟩ rfl fun i hi3 => ?_
    obtain ⟨c, q4⟩ := i
    obtain ⟨c1, c2, c3', _⟩ := hi3
    have c1 : c < 4 := c1
    have c2 : q3 ≤ q4 := c2
    have c3' : q4 ≤ g.l.length := c3'
    obtain ⟨n, hn, hn1⟩ : ∃ n : Int, IntKind.i64.wrap ((c : Int).tdiv 3) = n ∧ (n = 0 ∨ n = 1) := by
     rcases (by omega : c = 0 ∨ c = 1 ∨ c = 2 ∨ c = 3) with rfl | rfl | rfl | rfl
     ·exact ⟨0, by decide, .inl rfl⟩
     ·exact ⟨0, by decide, .inl rfl⟩
     ·exact ⟨0, by decide, .inl rfl⟩
     ·exact ⟨1, by decide, .inr rfl⟩
    refine wX ?_
    refine callG (ha g ok true k1 hi.kd q4 z1 c3' F1 (fun w hw => ⟨(hA w (hi.f w hw).1).1, (hi.f w hw).2.2⟩)) [0, 1] rfl ⟨rfl, rfl, trivial⟩ rfl fun j hj => ?_
    obtain ⟨l2, b2, a2, cap2, k2, q5, z2, F2⟩ := j
    have hle2 : q4 ≤ q5 ∧ q5 ≤ g.l.length := hj.le
    have hgs2 : Gs k1.l (l2 ++ b2) k2.l (8 * (q5 - q4)) (4 * (D + 1) + 1) := hj.gs
    have hll := len_szs (l2 ++ b2)
    have hls := hgs2.sz
    refine wX ?_
    refine app_any (n := 1) (m := (l2 ++ b2).length) 4 (nodesC [t]) (nodesC (l2 ++ b2)) rfl hcap1 (fun h => isT hj.row.1 (List.getElem?_eq_getElem h)) (nodesC_len _) (nodesC_plain _) (fun w hw j v hv => (hj.f w hw.1).2.1.1.cell hv) ⟨⟨by show (1 + (l2 ++ b2).length) * 56 ≤ _; omega, by show 1 + (l2 ++ b2).length < _; omega⟩, by decide⟩ fun b3 c3 g3 => ?_
    rw [nodesC_app]
    refine wX ?_
    have e1 : 1 + (l2 ++ b2).length = ([t] ++ (l2 ++ b2)).length := by simp; omega
    rw [e1, hn]
    have hg : Gn k.l ⟨17, x, n, some ⟨b3, 0, none⟩, [t] ++ (l2 ++ b2), c3⟩ k2.l (9 + 8 * (q5 - p)) (4 * (D + 1) + 3) := (Gn.q (s := 1 + 8 * (q1 - p) + 8 * (q5 - q4)) (d := 4 * (D + 1) + 1) rfl (.some (by rw [← e1]; exact g3)) hxv.2.2.2 (by omega) ((hg1.le (Nat.le_refl _) (by omega)).s.app hgs2)).le (by omega) (by omega)
    refine ⟨_, sealG _ _ _ _ _, ⟨⟨17, x, n, some ⟨b3, 0, none⟩, [t] ++ (l2 ++ b2), c3⟩, k2, q5, z2, _⟩, ⟨V.call (k := t) (l := l2) (b := b2) hxv.1 hxv.2.1 hxv.2.2.1 hn1 hv1 hj.vl hj.vb hj.b1, trivial, hg, hj.kd, ⟨by show p ≤ q5; omega, hle2.2⟩, fun w hw => ?_⟩, rfl, ⟨wkE_refl _, wkE_refl _, wkH_nil _⟩⟩
    obtain ⟨f1, f2, f3⟩ := hj.f w hw.1
    obtain ⟨f4, f5, f6⟩ := hi.f w f1
    exact ⟨f4, treeF hg.tk hw.2.1 rfl (allV (one_mem (hf1 w (f5 t (List.mem_singleton.2 rfl)))) f2.2), f3⟩
 ·have hv1 := hv
  have hg1 := hg0
  have hf1 : ∀ w, TreeF w t → TreeF w t := fun _ h => h
  refine wX ?_
  refine callG (pick_c g ok q1 z1 4 ⟨by decide, by decide⟩ hle.2 F1 (fun w hw => (hA w (hi.f w hw).1).1)) [0, 1] rfl ⟨rfl, rfl, trivial⟩ rfl fun i hi2 => ?_
  obtain ⟨y, q2⟩ := i
  obtain ⟨j1, j2, j3, _⟩ := hi2
  have j1 : y < 4 := j1
  have j2 : q1 ≤ q2 := j2
  have j3 : q2 ≤ g.l.length := j3
  rcases (by omega : y = 0 ∨ y = 1 ∨ y = 2 ∨ y = 3) with rfl | rfl | rfl | rfl
  ·-- one of a list's texts; opers_g: the list's contract, opL: the list, 5: the row's entry, q2: the place of the numbers
   refine wXR ?_
   refine callG opers_g [] rfl trivial rfl fun rb _ => ?_
   refine wXR ?_
   refine SpecH.shut 5 rfl ?_
   refine callG (text_c g ok q2 z1 (by omega) F1 _ (fun w hw => (hA w (hi.f w hw).1).1) (some ⟨rb, 0, none⟩) opL _ ⟨by decide, by decide⟩ rfl (fun w hw => hw)) [0, 1, 5] rfl ⟨rfl, rfl, rfl, trivial⟩ rfl fun i hi2 => ?_
   obtain ⟨x, q3⟩ := i
   obtain ⟨hx, hq2, hq3⟩ := hi2
   have hx : x ∈ opL := hx
   have hq2 : q2 ≤ q3 := hq2
   have hq3 : q3 ≤ g.l.length := hq3
   have hxv := opL_v x hx
   refine wX ?_
   refine brd_intro (fun h7 => ?_) (fun h7 => ?_)
   ·obtain rfl : x = ix1 := (bs_ne h7).1 rfl
    refine wX ?_
    refine callG (pick_c g ok q3 z1 2 ⟨by decide, by decide⟩ hq3 F1 (fun w hw => (hA w (hi.f w hw).1).1)) [0, 1] rfl ⟨rfl, rfl, trivial⟩ rfl fun i hi3 => ?_
    obtain ⟨c, q4⟩ := i
    obtain ⟨c1, c2, c3', _⟩ := hi3
    have c1 : c < 2 := c1
    have c2 : q3 ≤ q4 := c2
    have c3' : q4 ≤ g.l.length := c3'
    have hcw : IntKind.i64.wrap (1 + (c : Int)) = ((1 + c : Nat) : Int) := by rw [wrap_i64 (by omega)]; omega
    (conv => whnf)
    refine VrN.norm hcw ?_
    refine wX ?_
    refine callG (hs g ok (1 + c) (by omega) k1 hi.kd q4 z1 (by omega) F1 (fun w hw => ⟨(hA w (hi.f w hw).1).1, (hi.f w hw).2.2⟩)) [0, 1] rfl ⟨rfl, rfl, trivial⟩ rfl fun j hj => ?_
    obtain ⟨l2, ob2, cap2, k2, q5, z2, F2⟩ := j
    obtain ⟨hj, hl2⟩ := hj
    have hl2 : l2.length = 1 + c := hl2
    have hle2 : q4 ≤ q5 ∧ q5 ≤ g.l.length := hj.le
    have hgs2 : Gs k1.l l2 k2.l (l2.length + 8 * (q5 - q4)) (4 * (D + 1) - 1) := hj.gs
    refine wX ?_
    refine app_any (n := 1) (m := l2.length) 4 (nodesC [t]) (nodesC l2) rfl hcap1 (fun h => isT (at0_nil hj.nil) (List.getElem?_eq_getElem h)) (nodesC_len _) (nodesC_plain _) (fun w hw j v hv => (hw.2.2.2.2.1 : SlAt (at0 ob2) (l2.length * 4) (nodesC l2) w).cell hv) ⟨⟨by show (1 + l2.length) * 56 ≤ _; omega, by show 1 + l2.length < _; omega⟩, by decide⟩ fun b3 c3 g3 => ?_
    rw [nodesC_app]
    refine wX ?_
    have e1 : 1 + l2.length = ([t] ++ l2).length := by simp; omega
    rw [e1]
    have hg : Gn k.l ⟨17, ix1, 0, some ⟨b3, 0, none⟩, [t] ++ l2, c3⟩ k2.l (9 + 8 * (q5 - p)) (4 * (D + 1) + 3) := (Gn.q (s := 1 + 8 * (q1 - p) + (l2.length + 8 * (q5 - q4))) (d := 4 * (D + 1) - 1) rfl (.some (by rw [← e1]; exact g3)) hxv.2 (by omega) (hg1.s.app hgs2)).le (by omega) (by omega)
    refine ⟨_, sealG _ _ _ _ _, ⟨⟨17, ix1, 0, some ⟨b3, 0, none⟩, [t] ++ l2, c3⟩, k2, q5, z2, _⟩, ⟨?_, trivial, hg, hj.kd, ⟨by show p ≤ q5; omega, hle2.2⟩, fun w hw => ?_⟩, rfl, ⟨wkE_refl _, wkE_refl _, wkH_nil _⟩⟩
    rotate_left
    ·obtain ⟨f1, f2, f3⟩ := hj.f w hw.1
     obtain ⟨f4, f5, f6⟩ := hi.f w f1
     exact ⟨f4, treeF hg.tk hw.2.1 rfl (allV (one_mem (hf1 w (f5 t (List.mem_singleton.2 rfl)))) f2), f3⟩
    exact V.cop (k := t) (l := l2) hxv.1 hv1 hj.v (by omega) (fun h => absurd h (by decide)) (fun h => absurd rfl h)
   ·have hx1 : x ≠ ix1 := fun h => by cases (bs_ne h7).2 h
    refine wX ?_
    refine brd_intro (fun h8 => ?_) (fun h8 => ?_)
    ·obtain rfl : x = ix2 := (bs_ne h8).1 rfl
     refine wX ?_
     refine callG (pick_c g ok q3 z1 2 ⟨by decide, by decide⟩ hq3 F1 (fun w hw => (hA w (hi.f w hw).1).1)) [0, 1] rfl ⟨rfl, rfl, trivial⟩ rfl fun i hi3 => ?_
     obtain ⟨c, q4⟩ := i
     obtain ⟨c1, c2, c3', _⟩ := hi3
     have c1 : c < 2 := c1
     have c2 : q3 ≤ q4 := c2
     have c3' : q4 ≤ g.l.length := c3'
     have hcw : IntKind.i64.wrap (2 + (c : Int)) = ((2 + c : Nat) : Int) := by rw [wrap_i64 (by omega)]; omega
     (conv => whnf)
     refine VrN.norm hcw ?_
     refine wX ?_
     refine callG (hs g ok (2 + c) (by omega) k1 hi.kd q4 z1 (by omega) F1 (fun w hw => ⟨(hA w (hi.f w hw).1).1, (hi.f w hw).2.2⟩)) [0, 1] rfl ⟨rfl, rfl, trivial⟩ rfl fun j hj => ?_
     obtain ⟨l2, ob2, cap2, k2, q5, z2, F2⟩ := j
     obtain ⟨hj, hl2⟩ := hj
     have hl2 : l2.length = 2 + c := hl2
     have hle2 : q4 ≤ q5 ∧ q5 ≤ g.l.length := hj.le
     have hgs2 : Gs k1.l l2 k2.l (l2.length + 8 * (q5 - q4)) (4 * (D + 1) - 1) := hj.gs
     refine wX ?_
     refine app_any (n := 1) (m := l2.length) 4 (nodesC [t]) (nodesC l2) rfl hcap1 (fun h => isT (at0_nil hj.nil) (List.getElem?_eq_getElem h)) (nodesC_len _) (nodesC_plain _) (fun w hw j v hv => (hw.2.2.2.2.1 : SlAt (at0 ob2) (l2.length * 4) (nodesC l2) w).cell hv) ⟨⟨by show (1 + l2.length) * 56 ≤ _; omega, by show 1 + l2.length < _; omega⟩, by decide⟩ fun b3 c3 g3 => ?_
     rw [nodesC_app]
     refine wX ?_
     have e1 : 1 + l2.length = ([t] ++ l2).length := by simp; omega
     rw [e1]
     have hg : Gn k.l ⟨17, ix2, 0, some ⟨b3, 0, none⟩, [t] ++ l2, c3⟩ k2.l (9 + 8 * (q5 - p)) (4 * (D + 1) + 3) := (Gn.q (s := 1 + 8 * (q1 - p) + (l2.length + 8 * (q5 - q4))) (d := 4 * (D + 1) - 1) rfl (.some (by rw [← e1]; exact g3)) hxv.2 (by omega) (hg1.s.app hgs2)).le (by omega) (by omega)
     refine ⟨_, sealG _ _ _ _ _, ⟨⟨17, ix2, 0, some ⟨b3, 0, none⟩, [t] ++ l2, c3⟩, k2, q5, z2, _⟩, ⟨?_, trivial, hg, hj.kd, ⟨by show p ≤ q5; omega, hle2.2⟩, fun w hw => ?_⟩, rfl, ⟨wkE_refl _, wkE_refl _, wkH_nil _⟩⟩
     rotate_left
     ·obtain ⟨f1, f2, f3⟩ := hj.f w hw.1
      obtain ⟨f4, f5, f6⟩ := hi.f w f1
      exact ⟨f4, treeF hg.tk hw.2.1 rfl (allV (one_mem (hf1 w (f5 t (List.mem_singleton.2 rfl)))) f2), f3⟩
     exact V.cop (k := t) (l := l2) hxv.1 hv1 hj.v (by omega) (fun _ => by omega) (fun _ h => absurd rfl h)
    ·have hx2 : x ≠ ix2 := fun h => by cases (bs_ne h8).2 h
     refine wX ?_
     refine callG (hs g ok (1) (by omega) k1 hi.kd q3 z1 (by omega) F1 (fun w hw => ⟨(hA w (hi.f w hw).1).1, (hi.f w hw).2.2⟩)) [0, 1] rfl ⟨rfl, rfl, trivial⟩ rfl fun j hj => ?_
     obtain ⟨l2, ob2, cap2, k2, q5, z2, F2⟩ := j
     obtain ⟨hj, hl2⟩ := hj
     have hl2 : l2.length = 1 := hl2
     have hle2 : q3 ≤ q5 ∧ q5 ≤ g.l.length := hj.le
     have hgs2 : Gs k1.l l2 k2.l (l2.length + 8 * (q5 - q3)) (4 * (D + 1) - 1) := hj.gs
     refine wX ?_
     refine app_any (n := 1) (m := l2.length) 4 (nodesC [t]) (nodesC l2) rfl hcap1 (fun h => isT (at0_nil hj.nil) (List.getElem?_eq_getElem h)) (nodesC_len _) (nodesC_plain _) (fun w hw j v hv => (hw.2.2.2.2.1 : SlAt (at0 ob2) (l2.length * 4) (nodesC l2) w).cell hv) ⟨⟨by show (1 + l2.length) * 56 ≤ _; omega, by show 1 + l2.length < _; omega⟩, by decide⟩ fun b3 c3 g3 => ?_
     rw [nodesC_app]
     refine wX ?_
     have e1 : 1 + l2.length = ([t] ++ l2).length := by simp; omega
     rw [e1]
     have hg : Gn k.l ⟨17, x, 0, some ⟨b3, 0, none⟩, [t] ++ l2, c3⟩ k2.l (9 + 8 * (q5 - p)) (4 * (D + 1) + 3) := (Gn.q (s := 1 + 8 * (q1 - p) + (l2.length + 8 * (q5 - q3))) (d := 4 * (D + 1) - 1) rfl (.some (by rw [← e1]; exact g3)) hxv.2 (by omega) (hg1.s.app hgs2)).le (by omega) (by omega)
     refine ⟨_, sealG _ _ _ _ _, ⟨⟨17, x, 0, some ⟨b3, 0, none⟩, [t] ++ l2, c3⟩, k2, q5, z2, _⟩, ⟨?_, trivial, hg, hj.kd, ⟨by show p ≤ q5; omega, hle2.2⟩, fun w hw => ?_⟩, rfl, ⟨wkE_refl _, wkE_refl _, wkH_nil _⟩⟩
     rotate_left
     ·obtain ⟨f1, f2, f3⟩ := hj.f w hw.1
      obtain ⟨f4, f5, f6⟩ := hi.f w f1
      exact ⟨f4, treeF hg.tk hw.2.1 rfl (allV (one_mem (hf1 w (f5 t (List.mem_singleton.2 rfl)))) f2), f3⟩
     exact V.cop (k := t) (l := l2) hxv.1 hv1 hj.v (by omega) (fun h => absurd h hx2) (fun _ _ => hl2)
  ·refine wXR ?_
   refine RwN.known (strsC setL) rfl fun rb => ?_
   refine wXR ?_
   refine SpecH.shut 5 rfl ?_
   refine callG (text_c g ok q2 z1 (by omega) F1 _ (fun w hw => (hA w (hi.f w hw).1).1) (some ⟨rb, 0, none⟩) setL _ ⟨by decide, by decide⟩ rfl (fun w hw => hw)) [0, 1, 5] rfl ⟨rfl, rfl, rfl, trivial⟩ rfl fun i hi2 => ?_
   obtain ⟨x, q3⟩ := i
   obtain ⟨hx, hq2, hq3⟩ := hi2
   have hx : x ∈ setL := hx
   have hq2 : q2 ≤ q3 := hq2
   have hq3 : q3 ≤ g.l.length := hq3
   have hxv := setL_v x hx
   refine wX ?_
   refine callG (hs g ok (1) (by omega) k1 hi.kd q3 z1 (by omega) F1 (fun w hw => ⟨(hA w (hi.f w hw).1).1, (hi.f w hw).2.2⟩)) [0, 1] rfl ⟨rfl, rfl, trivial⟩ rfl fun j hj => ?_
   obtain ⟨l2, ob2, cap2, k2, q5, z2, F2⟩ := j
   obtain ⟨hj, hl2⟩ := hj
   have hl2 : l2.length = 1 := hl2
   have hle2 : q3 ≤ q5 ∧ q5 ≤ g.l.length := hj.le
   have hgs2 : Gs k1.l l2 k2.l (l2.length + 8 * (q5 - q3)) (4 * (D + 1) - 1) := hj.gs
   refine wX ?_
   refine app_any (n := 1) (m := l2.length) 4 (nodesC [t]) (nodesC l2) rfl hcap1 (fun h => isT (at0_nil hj.nil) (List.getElem?_eq_getElem h)) (nodesC_len _) (nodesC_plain _) (fun w hw j v hv => (hw.2.2.2.2.1 : SlAt (at0 ob2) (l2.length * 4) (nodesC l2) w).cell hv) ⟨⟨by show (1 + l2.length) * 56 ≤ _; omega, by show 1 + l2.length < _; omega⟩, by decide⟩ fun b3 c3 g3 => ?_
   rw [nodesC_app]
   refine wX ?_
   have e1 : 1 + l2.length = ([t] ++ l2).length := by simp; omega
   rw [e1]
   have hg : Gn k.l ⟨17, x, 0, some ⟨b3, 0, none⟩, [t] ++ l2, c3⟩ k2.l (9 + 8 * (q5 - p)) (4 * (D + 1) + 3) := (Gn.q (s := 1 + 8 * (q1 - p) + (l2.length + 8 * (q5 - q3))) (d := 4 * (D + 1) - 1) rfl (.some (by rw [← e1]; exact g3)) hxv.2.2.2 (by omega) (hg1.s.app hgs2)).le (by omega) (by omega)
   refine ⟨_, sealG _ _ _ _ _, ⟨⟨17, x, 0, some ⟨b3, 0, none⟩, [t] ++ l2, c3⟩, k2, q5, z2, _⟩, ⟨?_, trivial, hg, hj.kd, ⟨by show p ≤ q5; omega, hle2.2⟩, fun w hw => ?_⟩, rfl, ⟨wkE_refl _, wkE_refl _, wkH_nil _⟩⟩
   rotate_left
   ·obtain ⟨f1, f2, f3⟩ := hj.f w hw.1
    obtain ⟨f4, f5, f6⟩ := hi.f w f1
    exact ⟨f4, treeF hg.tk hw.2.1 rfl (allV (one_mem (hf1 w (f5 t (List.mem_singleton.2 rfl)))) f2), f3⟩
   obtain ⟨u, rfl⟩ := List.length_eq_one_iff.1 hl2
   exact .cset hxv.1 hxv.2.1 hxv.2.2.1 hv1 (hj.v u (List.mem_singleton.2 rfl))
  ·-- a call with a name and arguments; 0: the number, t: the first expr
   refine wXR ?_
   refine callG methods_g [] rfl trivial rfl fun rb _ => ?_
   refine wXR ?_
   refine SpecH.shut 5 rfl ?_
   refine callG (text_c g ok q2 z1 (by omega) F1 _ (fun w hw => (hA w (hi.f w hw).1).1) (some ⟨rb, 0, none⟩) metL _ ⟨by decide, by decide⟩ rfl (fun w hw => hw)) [0, 1, 5] rfl ⟨rfl, rfl, rfl, trivial⟩ rfl fun i hi2 => ?_
   obtain ⟨x, q3⟩ := i
   obtain ⟨hx, hq2, hq3⟩ := hi2
   have hx : x ∈ metL := hx
   have hq2 : q2 ≤ q3 := hq2
   have hq3 : q3 ≤ g.l.length := hq3
   have hxv := metL_v x hx
   refine wX ?_
   refine callG (pick_c g ok q3 z1 4 ⟨by decide, by decide⟩ hq3 F1 (fun w hw => (hA w (hi.f w hw).1).1)) [0, 1] rfl ⟨rfl, rfl, trivial⟩ rfl fun i hi3 => ?_
   obtain ⟨c, q4⟩ := i
   obtain ⟨c1, c2, c3', _⟩ := hi3
   have c1 : c < 4 := c1
   have c2 : q3 ≤ q4 := c2
   have c3' : q4 ≤ g.l.length := c3'
   obtain ⟨n, hn, hn1⟩ : ∃ n : Int, IntKind.i64.wrap ((c : Int).tdiv 3) = n ∧ (n = 0 ∨ n = 1) := by
    rcases (by omega : c = 0 ∨ c = 1 ∨ c = 2 ∨ c = 3) with rfl | rfl | rfl | rfl
    ·exact ⟨0, by decide, .inl rfl⟩
    ·exact ⟨0, by decide, .inl rfl⟩
    ·exact ⟨0, by decide, .inl rfl⟩
    ·exact ⟨1, by decide, .inr rfl⟩
   refine wX ?_
   refine callG (ha g ok true k1 hi.kd q4 z1 c3' F1 (fun w hw => ⟨(hA w (hi.f w hw).1).1, (hi.f w hw).2.2⟩)) [0, 1] rfl ⟨rfl, rfl, trivial⟩ rfl fun j hj => ?_
   obtain ⟨l2, b2, a2, cap2, k2, q5, z2, F2⟩ := j
   have hle2 : q4 ≤ q5 ∧ q5 ≤ g.l.length := hj.le
   have hgs2 : Gs k1.l (l2 ++ b2) k2.l (8 * (q5 - q4)) (4 * (D + 1) + 1) := hj.gs
   have hll := len_szs (l2 ++ b2)
   have hls := hgs2.sz
   refine wX ?_
   refine app_any (n := 1) (m := (l2 ++ b2).length) 4 (nodesC [t]) (nodesC (l2 ++ b2)) rfl hcap1 (fun h => isT hj.row.1 (List.getElem?_eq_getElem h)) (nodesC_len _) (nodesC_plain _) (fun w hw j v hv => (hj.f w hw.1).2.1.1.cell hv) ⟨⟨by show (1 + (l2 ++ b2).length) * 56 ≤ _; omega, by show 1 + (l2 ++ b2).length < _; omega⟩, by decide⟩ fun b3 c3 g3 => ?_
   rw [nodesC_app]
   refine wX ?_
   have e1 : 1 + (l2 ++ b2).length = ([t] ++ (l2 ++ b2)).length := by simp; omega
   rw [e1, hn]
   have hg : Gn k.l ⟨17, x, n, some ⟨b3, 0, none⟩, [t] ++ (l2 ++ b2), c3⟩ k2.l (9 + 8 * (q5 - p)) (4 * (D + 1) + 3) := (Gn.q (s := 1 + 8 * (q1 - p) + 8 * (q5 - q4)) (d := 4 * (D + 1) + 1) rfl (.some (by rw [← e1]; exact g3)) hxv.2.2.2 (by omega) ((hg1.le (Nat.le_refl _) (by omega)).s.app hgs2)).le (by omega) (by omega)
   refine ⟨_, sealG _ _ _ _ _, ⟨⟨17, x, n, some ⟨b3, 0, none⟩, [t] ++ (l2 ++ b2), c3⟩, k2, q5, z2, _⟩, ⟨V.call (k := t) (l := l2) (b := b2) hxv.1 hxv.2.1 hxv.2.2.1 hn1 hv1 hj.vl hj.vb hj.b1, trivial, hg, hj.kd, ⟨by show p ≤ q5; omega, hle2.2⟩, fun w hw => ?_⟩, rfl, ⟨wkE_refl _, wkE_refl _, wkH_nil _⟩⟩
   obtain ⟨f1, f2, f3⟩ := hj.f w hw.1
   obtain ⟨f4, f5, f6⟩ := hi.f w f1
   exact ⟨f4, treeF hg.tk hw.2.1 rfl (allV (one_mem (hf1 w (f5 t (List.mem_singleton.2 rfl)))) f2.2), f3⟩
  ·-- a call with a name and arguments; 1: the number, t: the first expr
   refine wXR ?_
   refine callG methods_g [] rfl trivial rfl fun rb _ => ?_
   refine wXR ?_
   refine SpecH.shut 5 rfl ?_
   refine callG (text_c g ok q2 z1 (by omega) F1 _ (fun w hw => (hA w (hi.f w hw).1).1) (some ⟨rb, 0, none⟩) metL _ ⟨by decide, by decide⟩ rfl (fun w hw => hw)) [0, 1, 5] rfl ⟨rfl, rfl, rfl, trivial⟩ rfl fun i hi2 => ?_
   obtain ⟨x, q3⟩ := i
   obtain ⟨hx, hq2, hq3⟩ := hi2
   have hx : x ∈ metL := hx
   have hq2 : q2 ≤ q3 := hq2
   have hq3 : q3 ≤ g.l.length := hq3
   have hxv := metL_v x hx
   refine wX ?_
   refine callG (pick_c g ok q3 z1 4 ⟨by decide, by decide⟩ hq3 F1 (fun w hw => (hA w (hi.f w hw).1).1)) [0, 1] rfl ⟨rfl, rfl, trivial⟩ rfl fun i hi3 => ?_
   obtain ⟨c, q4⟩ := i
   obtain ⟨c1, c2, c3', _⟩ := hi3
   have c1 : c < 4 := c1
   have c2 : q3 ≤ q4 := c2
   have c3' : q4 ≤ g.l.length := c3'
   obtain ⟨n, hn, hn1⟩ : ∃ n : Int, IntKind.i64.wrap ((c : Int).tdiv 3) = n ∧ (n = 0 ∨ n = 1) := by
    rcases (by omega : c = 0 ∨ c = 1 ∨ c = 2 ∨ c = 3) with rfl | rfl | rfl | rfl
    ·exact ⟨0, by decide, .inl rfl⟩
    ·exact ⟨0, by decide, .inl rfl⟩
    ·exact ⟨0, by decide, .inl rfl⟩
    ·exact ⟨1, by decide, .inr rfl⟩
   refine wX ?_
   refine callG (ha g ok true k1 hi.kd q4 z1 c3' F1 (fun w hw => ⟨(hA w (hi.f w hw).1).1, (hi.f w hw).2.2⟩)) [0, 1] rfl ⟨rfl, rfl, trivial⟩ rfl fun j hj => ?_
   obtain ⟨l2, b2, a2, cap2, k2, q5, z2, F2⟩ := j
   have hle2 : q4 ≤ q5 ∧ q5 ≤ g.l.length := hj.le
   have hgs2 : Gs k1.l (l2 ++ b2) k2.l (8 * (q5 - q4)) (4 * (D + 1) + 1) := hj.gs
   have hll := len_szs (l2 ++ b2)
   have hls := hgs2.sz
   refine wX ?_
   refine app_any (n := 1) (m := (l2 ++ b2).length) 4 (nodesC [t]) (nodesC (l2 ++ b2)) rfl hcap1 (fun h => isT hj.row.1 (List.getElem?_eq_getElem h)) (nodesC_len _) (nodesC_plain _) (fun w hw j v hv => (hj.f w hw.1).2.1.1.cell hv) ⟨⟨by show (1 + (l2 ++ b2).length) * 56 ≤ _; omega, by show 1 + (l2 ++ b2).length < _; omega⟩, by decide⟩ fun b3 c3 g3 => ?_
   rw [nodesC_app]
   refine wX ?_
   have e1 : 1 + (l2 ++ b2).length = ([t] ++ (l2 ++ b2)).length := by simp; omega
   rw [e1, hn]
   have hg : Gn k.l ⟨17, x, n, some ⟨b3, 0, none⟩, [t] ++ (l2 ++ b2), c3⟩ k2.l (9 + 8 * (q5 - p)) (4 * (D + 1) + 3) := (Gn.q (s := 1 + 8 * (q1 - p) + 8 * (q5 - q4)) (d := 4 * (D + 1) + 1) rfl (.some (by rw [← e1]; exact g3)) hxv.2.2.2 (by omega) ((hg1.le (Nat.le_refl _) (by omega)).s.app hgs2)).le (by omega) (by omega)
   refine ⟨_, sealG _ _ _ _ _, ⟨⟨17, x, n, some ⟨b3, 0, none⟩, [t] ++ (l2 ++ b2), c3⟩, k2, q5, z2, _⟩, ⟨V.call (k := t) (l := l2) (b := b2) hxv.1 hxv.2.1 hxv.2.2.1 hn1 hv1 hj.vl hj.vb hj.b1, trivial, hg, hj.kd, ⟨by show p ≤ q5; omega, hle2.2⟩, fun w hw => ?_⟩, rfl, ⟨wkE_refl _, wkE_refl _, wkH_nil _⟩⟩
   obtain ⟨f1, f2, f3⟩ := hj.f w hw.1
   obtain ⟨f4, f5, f6⟩ := hi.f w f1
   exact ⟨f4, treeF hg.tk hw.2.1 rfl (allV (one_mem (hf1 w (f5 t (List.mem_singleton.2 rfl)))) f2.2), f3⟩
theorem letter_g (n : Int) : ∀ H, SpecH Tryz.prog 139 (pvs [.int .u8 n]) H (Ret (.bool (decide (97 ≤ n ∧ n ≤ 122 ∨ 65 ≤ n ∧ n ≤ 90 ∨ n = 95))) H) := by
 refine pureC hm Tryz.func139 (by kernel_rfl) rfl rfl ?_
 refine wX ?_
 (repeat' (first | (refine brd_dec (fun _ => ?_) (fun _ => ?_)) | (refine brd_eq (fun _ => ?_) (fun _ => ?_))))
 all_goals (first | refine wX ?_ | exact wZ)
 (repeat' (first | (refine brd_dec (fun _ => ?_) (fun _ => ?_)) | (refine brd_eq (fun _ => ?_) (fun _ => ?_))))
 all_goals (first | refine wX ?_ | exact wZ)
 (repeat' (first | (refine brd_dec (fun _ => ?_) (fun _ => ?_)) | (refine brd_eq (fun _ => ?_) (fun _ => ?_))))
 all_goals (first | refine wX ?_ | exact wZ)
 (repeat' (first | (refine brd_dec (fun _ => ?_) (fun _ => ?_)) | (refine brd_eq (fun _ => ?_) (fun _ => ?_))))
 all_goals (first | refine wX ?_ | exact wZ)
 (repeat' (first | (refine brd_dec (fun _ => ?_) (fun _ => ?_)) | (refine brd_eq (fun _ => ?_) (fun _ => ?_))))
 all_goals (first | refine wX ?_ | exact wZ)
 all_goals
  refine ret_b ?_
  simp
  try omega
theorem word_g (x : List UInt8) (hx : x ∈ cnL) : ∀ H, SpecH Tryz.prog 126 (pvs [.string (bs x), .bool true]) H (Ret (.bool true) H) := by
 refine pureC hm Tryz.func126 (by kernel_rfl) rfl rfl ?_
 rcases (by simpa [cnL] using hx : x = [67] ∨ x = [79, 98, 106, 101, 99, 116] ∨ x = [68, 95, 49]) with rfl | rfl | rfl
 ·refine wX ?_
  refine call1 (letter_g _ _) ?_
  refine wX ?_
  refine LoopN.unroll 8 ?_
  exact wZ
 ·refine wX ?_
  refine call1 (letter_g _ _) ?_
  refine wX ?_
  refine LoopN.unroll 8 ?_
  refine wX ?_
  repeat (refine call1 (letter_g _ _) ?_; (first | refine wX ?_ | exact wZ))
  all_goals rfl
 ·refine wX ?_
  refine call1 (letter_g _ _) ?_
  refine wX ?_
  refine LoopN.unroll 8 ?_
  refine wX ?_
  repeat (refine call1 (letter_g _ _) ?_; (first | refine wX ?_ | exact wZ))
  all_goals rfl
theorem isconst_g (x : List UInt8) (hx : x ∈ cnL) : ∀ H, SpecH Tryz.prog 96 (pvs [.string (bs x)]) H (Ret (.bool true) H) := fun H => by
 refine factC (F := fun _ => True) hm Tryz.func96 (by kernel_rfl) rfl rfl ?_ H (fun _ _ => trivial)
 refine wX ?_
 refine call1 (word_g x hx _) ?_
 exact wZ
theorem valid_g (x : List UInt8) (hx : x ∈ cnL) (a : Option Addr) (c : Nat) : ∀ H, SpecH Tryz.prog 71 (pvs [.agg #[.int .i64 14, .string (bs x), .int .i64 0, .slice a 0 c]]) H (Ret (.bool true) H) := fun H => by
 refine factC (F := fun _ => True) hm Tryz.func71 (by kernel_rfl) rfl rfl ?_ H (fun _ _ => trivial)
 refine wX ?_
 refine call1 (isconst_g x hx _) ?_
 refine wX ?_
 all_goals rfl
theorem path_g (t : TP) (ho : t.op ≠ 15) (hk : t.kids = []) (hc : t.op = 14 → t.name ∈ cnL ∧ t.n = 0) : ∀ H, SpecH Tryz.prog 70 (pvs [nodeV t]) H (Ret (.bool (decide (t.op = 14))) H) := fun H => by
 obtain ⟨o, x, n, a, ks, c⟩ := t
 obtain rfl : ks = [] := hk
 refine factC (F := fun _ => True) (xs := [.agg #[.int .i64 o, .string (bs x), .int .i64 n, .slice a 0 c]]) hm Tryz.func70 (by kernel_rfl) rfl rfl ?_ H (fun _ _ => trivial)
 refine wX ?_
 refine brd_eq (fun h => absurd h ho) (fun _ => ?_)
 refine wX ?_
 refine brd_eq (fun h => ?_) (fun h => ?_)
 ·obtain rfl : o = 14 := h
  obtain ⟨hx, h0⟩ := hc rfl
  obtain rfl : n = 0 := h0
  refine wX ?_
  refine call1 (valid_g x hx a c _) ?_
  refine wX ?_
  all_goals rfl
 ·refine wX ?_
  rw [show decide (TP.op ⟨o, x, n, a, [], c⟩ = 14) = false from decide_eq_false h]
theorem constant_g (t : TP) (ho : t.op ≠ 15) (hk : t.kids = []) (hc : t.op = 14 → t.name ∈ cnL ∧ t.n = 0) : ∀ H, SpecH Tryz.prog 77 (pvs [nodeV t]) H (RetR (fun v => ∃ b, v = .bool b ∧ (b = true → constT t)) H) := fun H => by
 obtain ⟨o, x, n, a, ks, c⟩ := t
 obtain rfl : ks = [] := hk
 refine factR (F := fun _ => True) (xs := [.agg #[.int .i64 o, .string (bs x), .int .i64 n, .slice a 0 c]]) hm Tryz.func77 (by kernel_rfl) rfl rfl ?_ H (fun _ _ => trivial)
 refine wX ?_
 refine brd_eq (fun h => ?_) (fun _ => ?_)
 ·refine wX ?_
  exact ⟨_, rfl, _, rfl, fun _ => .inl h⟩
 refine wX ?_
 refine brd_eq (fun h => ?_) (fun _ => ?_)
 ·refine wX ?_
  exact ⟨_, rfl, _, rfl, fun _ => .inr (.inl h)⟩
 refine wX ?_
 refine brd_eq (fun h => ?_) (fun _ => ?_)
 ·refine wX ?_
  exact ⟨_, rfl, _, rfl, fun _ => .inr (.inr (.inl h))⟩
 refine wX ?_
 refine brd_eq (fun h => ?_) (fun _ => ?_)
 ·refine wX ?_
  exact ⟨_, rfl, _, rfl, fun _ => .inr (.inr (.inr (.inl h)))⟩
 refine wX ?_
 refine brd_eq (fun h => ?_) (fun _ => ?_)
 ·refine wX ?_
  exact ⟨_, rfl, _, rfl, fun _ => .inr (.inr (.inr (.inr (.inl h))))⟩
 refine wX ?_
 refine brd_eq (fun h => ?_) (fun _ => ?_)
 ·refine wX ?_
  exact ⟨_, rfl, _, rfl, fun _ => .inr (.inr (.inr (.inr (.inr (.inl h)))))⟩
 refine wX ?_
 refine brd_eq (fun h => ?_) (fun _ => ?_)
 ·refine wX ?_
  exact ⟨_, rfl, _, rfl, fun _ => .inr (.inr (.inr (.inr (.inr (.inr (.inl h))))))⟩
 refine wX ?_
 refine call1 (path_g ⟨o, x, n, a, [], c⟩ ho rfl hc _) ?_
 refine wX ?_
 exact ⟨_, rfl, _, rfl, fun h => .inr (.inr (.inr (.inr (.inr (.inr (.inr (.inl (of_decide_eq_true h))))))))⟩
end Go.Proofs.YtpikpjlhdkkigaaGreatDoor
