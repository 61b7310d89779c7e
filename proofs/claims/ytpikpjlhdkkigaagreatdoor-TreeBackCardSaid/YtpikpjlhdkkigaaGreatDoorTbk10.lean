/-
  Lemmas (GC GD GE H1 H3 H2 C2 C3 GF H4 H5).
-/
import Derived.Test.YtpikpjlhdkkigaaGreatDoorTbk9
set_option linter.unusedVariables false
set_option linter.unusedSimpArgs false
namespace Go.Proofs.YtpikpjlhdkkigaaGreatDoor
open Go.AX Go.RowKit Go.Tree Go.Scan
set_option maxRecDepth 20000
def defL : NL := [[102, 111, 111], [120, 61], [43], [91, 93, 61], [102, 63], [99, 108, 97, 115, 115]]
def aliL : NL := [[102, 111, 111], [120, 61], [60, 60]]
def barL : NL := [[98, 97, 114], [61, 61]]
def undL : NL := [[102, 111, 111], [91, 93], [102, 63]]
theorem defL_v : ∀ x ∈ defL, meB x = true ∧ x.length ≤ 2000 := by decide +kernel
theorem aliL_v : ∀ x ∈ aliL, meB x = true ∧ x.length ≤ 2000 := by decide +kernel
theorem barL_v : ∀ x ∈ barL, meB x = true ∧ x.length ≤ 2000 := by decide +kernel
theorem undL_v : ∀ x ∈ undL, meB x = true ∧ x.length ≤ 2000 := by decide +kernel
theorem icC : icB [67] = true ∧ icB [68] = true ∧ icB [77] = true ∧ iiB [64, 97] = true := by decide +kernel
set_option maxHeartbeats 4000000 in
theorem gmore_c (D : Nat) (hD : D ≤ 50) (ih : ExprC D) (hs : SomeC (D + 1)) (hq : SeqC (D + 1)) (hb : BodyC (D + 1)) (ha : ArgsC (D + 1)) : NodeKC 41 .ex isAny (D + 1) 9 (4 * (D + 1) + 3) := by
 intro g ok k kok p z hp A hA
 refine ownT hm Tryz.func41 (by kernel_rfl) rfl rfl (fun _ _ => okHB_eq rfl) (fun _ _ => Nat.le_of_ble_eq_true rfl) ?_
 have hlen := ok.len
 have hko : KdOk k0 := k0_ok
 have hA1 : ∀ w, A w → NumF g w := fun w hw => (hA w hw).1
 have hA0 : ∀ w, A w → NumF g w ∧ KnF k0 w := fun w hw => ⟨(hA w hw).1, k0_f w⟩
 refine wXR ?_
 refine callG (pick_c g ok p z 15 ⟨by decide, by decide⟩ hp A hA1) [0, 1] rfl ⟨rfl, rfl, trivial⟩ rfl fun i hi => ?_
 obtain ⟨x, q⟩ := i
 obtain ⟨h1, h2, h3, h4⟩ := hi
 have h1 : x < 15 := h1
 have h2 : p ≤ q := h2
 have h3 : q ≤ g.l.length := h3
 have h4 : x ≠ 0 → p < q := h4
 rcases (by omega : x = 0 ∨ x = 1 ∨ x = 2 ∨ x = 3 ∨ x = 4 ∨ x = 5 ∨ x = 6 ∨ x = 7 ∨ x = 8 ∨ x = 9 ∨ x = 10 ∨ x = 11 ∨ x = 12 ∨ x = 13 ∨ x = 14) with rfl | rfl | rfl | rfl | rfl | rfl | rfl | rfl | rfl | rfl | rfl | rfl | rfl | rfl | rfl
 ·-- one of a list's texts; defL: the list, 3: the row's entry, q: where, h3: why, x q2: names
  refine wXR ?_
  refine RwN.known (strsC defL) rfl fun rbx => ?_
  refine wXR ?_
  refine SpecH.shut 3 rfl ?_
  refine callG (text_c g ok q z h3 A _ (fun w hw => (hA w hw).1) (some ⟨rbx, 0, none⟩) defL _ ⟨by decide, by decide⟩ rfl (fun w hw => hw)) [0, 1, 3] rfl ⟨rfl, rfl, rfl, trivial⟩ rfl fun i hi2 => ?_
  obtain ⟨x, q2⟩ := i
  obtain ⟨hmx, hqx, hrx⟩ := hi2
  have hmx : x ∈ defL := hmx
  have hqx : q ≤ q2 := hqx
  have hrx : q2 ≤ g.l.length := hrx
  have hxv := defL_v x hmx
  refine wXR ?_
  refine callG (pick_c g ok q2 z 2 ⟨by decide, by decide⟩ hrx A hA1) [0, 1] rfl ⟨rfl, rfl, trivial⟩ rfl fun i hi3 => ?_
  obtain ⟨y, q3⟩ := i
  obtain ⟨y1, y2, y3, y4⟩ := hi3
  have y1 : y < 2 := y1
  have y2 : q2 ≤ q3 := y2
  have y3 : q3 ≤ g.l.length := y3
  have y4 : y ≠ 0 → q2 < q3 := y4
  refine wXR ?_
  refine callG (hb g ok k0 hko q3 z y3 A hA0) [0, 1] rfl ⟨rfl, rfl, trivial⟩ rfl fun j hj => ?_
  obtain ⟨ps, s, ba, bc, bk, q4, z2, F2⟩ := j
  have hle2 : q3 ≤ q4 ∧ q4 ≤ g.l.length := hj.le
  have hgs : Gs [] (ps ++ [s]) bk (1 + 8 * (q4 - q3)) (4 * (D + 1)) := hj.gs
  refine wX ?_
  have hg : Gn k.l ⟨35, x, (y : Int), ba, ps ++ [s], bc⟩ k.l (2 + 8 * (q4 - q3)) (4 * (D + 1) + 1) := (Gn.dfn hxv.2 hj.row (by omega) hgs).le (by omega) (Nat.le_refl _)
  refine ⟨_, sealG _ _ _ _ _, ⟨⟨35, x, (y : Int), ba, ps ++ [s], bc⟩, k, q4, z2, _⟩, ⟨.dfn hxv.1 (by omega) hj.vp hj.pk hj.vs hj.so, trivial, hg.le (s2 := 9 + 8 * (q4 - p)) (by omega) (by omega), kok, ⟨by show p ≤ q4; omega, hle2.2⟩, fun w hw => ?_⟩, rfl, ⟨wkE_refl _, wkE_refl _, wkH_nil _⟩⟩
  obtain ⟨f1, f2⟩ := hj.f w hw.1
  exact ⟨f1, treeF hg.tk f2.1 rfl f2.2, (hA w f1).2⟩
 ·-- a seq; k0: known, q: numbers, h3: why, z: z, A: F, hA0: facts, 6: names
  refine wX ?_
  refine callG (hq g ok k0 (by assumption) q z h3 A hA0) [0, 1] rfl ⟨rfl, rfl, trivial⟩ rfl fun j6 hj6 => ?_
  obtain ⟨s6, k6, q6, z6, F6⟩ := j6
  have hls6 : q ≤ q6 ∧ q6 ≤ g.l.length := hj6.le
  have hgq6 : Gn k0.l s6 k6.l (1 + 8 * (q6 - q)) (4 * (D + 1)) := hj6.gn
  have hks6 : KdOk k6 := hj6.kd
  have hvs6 : V .ex s6 := hj6.v
  have hos6 : s6.op = 26 := hj6.q
  have hfs6 : ∀ w, F6 w → A w ∧ TreeF w s6 ∧ KnF k6 w := hj6.f
  refine wX ?_
  refine callG (pick_c g ok q6 z6 2 ⟨by decide, by decide⟩ hls6.2 F6 (fun w hw => (hA w (hfs6 w hw).1).1)) [0, 1] rfl ⟨rfl, rfl, trivial⟩ rfl fun i hi3 => ?_
  obtain ⟨y, q2⟩ := i
  obtain ⟨y1, y2, y3, y4⟩ := hi3
  have y1 : y < 2 := y1
  have y2 : q6 ≤ q2 := y2
  have y3 : q2 ≤ g.l.length := y3
  have y4 : y ≠ 0 → q6 < q2 := y4
  refine wXR ?_
  refine brd_eq (fun h5 => ?_) (fun h5 => ?_)
  ·refine wXR ?_
   refine RwN.known (nodesC [s6]) rfl fun nb => ?_
   refine wXR ?_
   refine call1 (node_c _ _ _ _ _ _) ?_
   refine wXR ?_
   have hg : Gn k.l ⟨32, [67], 0, some ⟨nb, 0, none⟩, [s6], 1⟩ k.l (1 + 8 * (q6 - q) + 1) (4 * (D + 1) + 1) := Gn.cls (ks := []) (.inl rfl) (by decide) (.some (Nat.le_refl 1)) (by omega) (Gs.nil _ _) hgq6 (by omega)
   refine ⟨_, sealG _ _ _ _ _, ⟨⟨32, [67], 0, some ⟨nb, 0, none⟩, [s6], 1⟩, k, q2, z6, _⟩, ⟨.cls0 icC.1 hvs6 hos6, trivial, hg.le (s2 := 9 + 8 * (q2 - p)) (by omega) (by omega), kok, ⟨by show p ≤ q2; omega, y3⟩, fun w hw => ?_⟩, rfl, ⟨wkE_refl _, wkE_refl _, wkH_nil _⟩⟩
   obtain ⟨f1, f2, f3⟩ := hfs6 w hw.1
   exact ⟨f1, treeF hg.tk hw.2.1 rfl (one_mem f2), (hA w f1).2⟩
  ·-- an expr; the same
   refine wX ?_
   rw [low D (by omega)]
   refine callG (ih g ok k (by assumption) q2 z6 y3 F6 (fun w hw => hA w (hfs6 w hw).1)) [0, 1] rfl ⟨rfl, rfl, trivial⟩ rfl fun j7 hj7 => ?_
   obtain ⟨s7, k7, q7, z7, F7⟩ := j7
   have hls7 : q2 ≤ q7 ∧ q7 ≤ g.l.length := hj7.le
   have hgq7 : Gn k.l s7 k7.l (1 + 8 * (q7 - q2)) (4 * (D + 1)) := Gn.le (s := 1 + 8 * (q7 - q2)) (d := 4 * D + 3) hj7.gn (Nat.le_refl _) (by omega)
   have hks7 : KdOk k7 := hj7.kd
   have hvs7 : V .ex s7 := hj7.v
   have hfs7 : ∀ w, F7 w → F6 w ∧ TreeF w s7 ∧ KnF k7 w := hj7.f
   refine wX ?_
   refine callG (hq g ok k0 (by assumption) q7 z7 hls7.2 F7 (fun w hw => hA0 w (hfs6 w (hfs7 w hw).1).1)) [0, 1] rfl ⟨rfl, rfl, trivial⟩ rfl fun j8 hj8 => ?_
   obtain ⟨s8, k8, q8, z8, F8⟩ := j8
   have hls8 : q7 ≤ q8 ∧ q8 ≤ g.l.length := hj8.le
   have hgq8 : Gn k0.l s8 k8.l (1 + 8 * (q8 - q7)) (4 * (D + 1)) := hj8.gn
   have hks8 : KdOk k8 := hj8.kd
   have hvs8 : V .ex s8 := hj8.v
   have hos8 : s8.op = 26 := hj8.q
   have hfs8 : ∀ w, F8 w → F7 w ∧ TreeF w s8 ∧ KnF k8 w := hj8.f
   refine wXR ?_
   refine RwN.known (nodesC [s7, s8]) rfl fun nb => ?_
   refine wXR ?_
   have hg : Gn k.l ⟨32, [68], 1, some ⟨nb, 0, none⟩, [s7, s8], 2⟩ k7.l (1 + 8 * (q7 - q2) + (1 + 8 * (q8 - q7)) + 1) (4 * (D + 1) + 1) := Gn.cls (ks := [s7]) (.inl rfl) (by decide) (.some (Nat.le_refl 2)) (by omega) hgq7.s hgq8 (Nat.le_refl _)
   refine ⟨_, sealG _ _ _ _ _, ⟨⟨32, [68], 1, some ⟨nb, 0, none⟩, [s7, s8], 2⟩, k7, q8, z8, _⟩, ⟨.cls1 icC.2.1 hvs7 hvs8 hos8, trivial, hg.le (s2 := 9 + 8 * (q8 - p)) (by omega) (by omega), hks7, ⟨by show p ≤ q8; omega, hls8.2⟩, fun w hw => ?_⟩, rfl, ⟨wkE_refl _, wkE_refl _, wkH_nil _⟩⟩
   obtain ⟨f1, f2, f3⟩ := hfs8 w hw.1
   obtain ⟨f4, f5, f6⟩ := hfs7 w f1
   exact ⟨(hfs6 w f4).1, treeF hg.tk hw.2.1 rfl (two_mem f5 f2), f6⟩
 ·have h5 := h4 (by decide)
  refine wX ?_
  refine callG (hq g ok k0 (by assumption) q z h3 A hA0) [0, 1] rfl ⟨rfl, rfl, trivial⟩ rfl fun j6 hj6 => ?_
  obtain ⟨s6, k6, q6, z6, F6⟩ := j6
  have hls6 : q ≤ q6 ∧ q6 ≤ g.l.length := hj6.le
  have hgq6 : Gn k0.l s6 k6.l (1 + 8 * (q6 - q)) (4 * (D + 1)) := hj6.gn
  have hks6 : KdOk k6 := hj6.kd
  have hvs6 : V .ex s6 := hj6.v
  have hos6 : s6.op = 26 := hj6.q
  have hfs6 : ∀ w, F6 w → A w ∧ TreeF w s6 ∧ KnF k6 w := hj6.f
  refine wXR ?_
  refine RwN.known (nodesC [s6]) rfl fun nb => ?_
  refine wXR ?_
  refine call1 (node_c _ _ _ _ _ _) ?_
  refine wXR ?_
  have hg : Gn k.l ⟨33, [77], 0, some ⟨nb, 0, none⟩, [s6], 1⟩ k.l (1 + 8 * (q6 - q) + 1) (4 * (D + 1) + 1) := Gn.cls (ks := []) (.inr (.inl rfl)) (by decide) (.some (Nat.le_refl 1)) (by omega) (Gs.nil _ _) hgq6 (by omega)
  refine ⟨_, sealG _ _ _ _ _, ⟨⟨33, [77], 0, some ⟨nb, 0, none⟩, [s6], 1⟩, k, q6, z6, _⟩, ⟨.modu icC.2.2.1 hvs6 hos6, trivial, hg.le (s2 := 9 + 8 * (q6 - p)) (by omega) (by omega), kok, ⟨by show p ≤ q6; omega, hls6.2⟩, fun w hw => ?_⟩, rfl, ⟨wkE_refl _, wkE_refl _, wkH_nil _⟩⟩
  obtain ⟨f1, f2, f3⟩ := hfs6 w hw.1
  exact ⟨f1, treeF hg.tk hw.2.1 rfl (one_mem f2), (hA w f1).2⟩
 ·have h5 := h4 (by decide)
  refine wX ?_
  rw [low D (by omega)]
  refine callG (ih g ok k (by assumption) q z h3 A hA) [0, 1] rfl ⟨rfl, rfl, trivial⟩ rfl fun j7 hj7 => ?_
  obtain ⟨s7, k7, q7, z7, F7⟩ := j7
  have hls7 : q ≤ q7 ∧ q7 ≤ g.l.length := hj7.le
  have hgq7 : Gn k.l s7 k7.l (1 + 8 * (q7 - q)) (4 * (D + 1)) := Gn.le (s := 1 + 8 * (q7 - q)) (d := 4 * D + 3) hj7.gn (Nat.le_refl _) (by omega)
  have hks7 : KdOk k7 := hj7.kd
  have hvs7 : V .ex s7 := hj7.v
  have hfs7 : ∀ w, F7 w → A w ∧ TreeF w s7 ∧ KnF k7 w := hj7.f
  refine wX ?_
  refine callG (hq g ok k0 (by assumption) q7 z7 hls7.2 F7 (fun w hw => hA0 w (hfs7 w hw).1)) [0, 1] rfl ⟨rfl, rfl, trivial⟩ rfl fun j8 hj8 => ?_
  obtain ⟨s8, k8, q8, z8, F8⟩ := j8
  have hls8 : q7 ≤ q8 ∧ q8 ≤ g.l.length := hj8.le
  have hgq8 : Gn k0.l s8 k8.l (1 + 8 * (q8 - q7)) (4 * (D + 1)) := hj8.gn
  have hks8 : KdOk k8 := hj8.kd
  have hvs8 : V .ex s8 := hj8.v
  have hos8 : s8.op = 26 := hj8.q
  have hfs8 : ∀ w, F8 w → F7 w ∧ TreeF w s8 ∧ KnF k8 w := hj8.f
  refine wXR ?_
  refine RwN.known (nodesC [s7, s8]) rfl fun nb => ?_
  refine wXR ?_
  refine call1 (node_c _ _ _ _ _ _) ?_
  refine wXR ?_
  have hg : Gn k.l ⟨34, [], 0, some ⟨nb, 0, none⟩, [s7, s8], 2⟩ k7.l (1 + 8 * (q7 - q) + (1 + 8 * (q8 - q7)) + 1) (4 * (D + 1) + 1) := Gn.cls (ks := [s7]) (.inr (.inr rfl)) (by decide) (.some (Nat.le_refl 2)) (by omega) hgq7.s hgq8 (Nat.le_refl _)
  refine ⟨_, sealG _ _ _ _ _, ⟨⟨34, [], 0, some ⟨nb, 0, none⟩, [s7, s8], 2⟩, k7, q8, z8, _⟩, ⟨.whil (.inr rfl) hvs7 hvs8 hos8, trivial, hg.le (s2 := 9 + 8 * (q8 - p)) (by omega) (by omega), hks7, ⟨by show p ≤ q8; omega, hls8.2⟩, fun w hw => ?_⟩, rfl, ⟨wkE_refl _, wkE_refl _, wkH_nil _⟩⟩
  obtain ⟨f1, f2, f3⟩ := hfs8 w hw.1
  obtain ⟨f4, f5, f6⟩ := hfs7 w f1
  exact ⟨f4, treeF hg.tk hw.2.1 rfl (two_mem f5 f2), f6⟩
 ·have h5 := h4 (by decide)
  refine wXR ?_
  refine callG (pick_c g ok q z 2 ⟨by decide, by decide⟩ h3 A hA1) [0, 1] rfl ⟨rfl, rfl, trivial⟩ rfl fun i hi3 => ?_
  obtain ⟨y, q2⟩ := i
  obtain ⟨y1, y2, y3, y4⟩ := hi3
  have y1 : y < 2 := y1
  have y2 : q ≤ q2 := y2
  have y3 : q2 ≤ g.l.length := y3
  have y4 : y ≠ 0 → q < q2 := y4
  refine wXR ?_
  refine callG (hs g ok (y) (by omega) k kok q2 z y3 A hA) [0, 1] rfl ⟨rfl, rfl, trivial⟩ rfl fun j hj => ?_
  obtain ⟨l2, ob2, cap2, k2, q4, z2, F2⟩ := j
  obtain ⟨hj, hl2⟩ := hj
  have hl2 : l2.length = y := hl2
  have hle2 : q2 ≤ q4 ∧ q4 ≤ g.l.length := hj.le
  have hk2 : KdOk k2 := hj.kd
  have hgs2 : Gs k.l l2 k2.l (l2.length + 8 * (q4 - q2)) (4 * (D + 1)) := Gs.le (s := l2.length + 8 * (q4 - q2)) (d := 4 * (D + 1) - 1) hj.gs (Nat.le_refl _) (by omega)
  have hf2 : ∀ w, F2 w → A w ∧ (∀ t ∈ l2, TreeF w t) ∧ KnF k2 w := hj.f
  have hv2 : ∀ t ∈ l2, V .ex t := hj.v
  have hrk : RowK (at0 ob2) cap2 l2 := rowK hj.nil hj.cap
  refine wXR ?_
  refine RwN.known (intG [36, 37, 38]) rfl fun rb => ?_
  refine wXR ?_
  refine callG (pick_c g ok q4 z2 3 ⟨by decide, by decide⟩ hle2.2 F2 (fun w hw => (hA w (hf2 w hw).1).1)) [0, 1] rfl ⟨rfl, rfl, trivial⟩ rfl fun i hi3 => ?_
  obtain ⟨u, q5⟩ := i
  obtain ⟨y1, y2, y3, y4⟩ := hi3
  have y1 : u < 3 := y1
  have y2 : q4 ≤ q5 := y2
  have y3 : q5 ≤ g.l.length := y3
  have y4 : u ≠ 0 → q4 < q5 := y4
  have hret : ∀ o : Int, o = 36 ∨ o = 37 ∨ o = 38 → V .ex ⟨o, [], 0, at0 ob2, l2, cap2⟩ := fun o ho => .ret ho (by omega) hv2
  rcases (by omega : u = 0 ∨ u = 1 ∨ u = 2) with rfl | rfl | rfl
  ·-- a kind out of a list; 36: the kind, 0: its place, (hret 36 (by decide)): V, q5: numbers, 3: how many facts there are ahead of the list's
   refine wXR ?_
   refine Nd.mk ⟨rfl, by show (0 : Int) ≤ 0; decide, by show (0 : Int) < _; decide⟩ ?_
   refine wXR ?_
   refine LdN.one (.int .i64 36) rfl (fun w hw => hw.2.2.2.1) rfl ?_
   refine wXR ?_
   refine call1 (node_c _ _ _ _ _ _) ?_
   refine wXR ?_
   have hg : Gn k.l ⟨36, [], 0, at0 ob2, _, cap2⟩ k2.l _ (4 * (D + 1) + 1) := Gn.q rfl hrk (by decide) (by omega) hgs2
   refine ⟨_, sealG _ _ _ _ _, ⟨⟨36, [], 0, at0 ob2, _, cap2⟩, k2, q5, z2, _⟩, ⟨(hret 36 (by decide)), trivial, hg.le (s2 := 9 + 8 * (q5 - p)) (by omega) (by omega), hk2, ⟨by show p ≤ q5; omega, by show q5 ≤ _; omega⟩, fun w hw => ?_⟩, rfl, ⟨wkE_refl _, wkE_refl _, wkH_nil _⟩⟩
   obtain ⟨f1, f2, f3⟩ := hf2 w hw.1
   exact ⟨f1, treeF hg.tk hw.2.1 rfl f2, f3⟩
  ·-- a kind out of a list; 37: the kind, 1: its place, (hret 37 (by decide)): V, q5: numbers, 3: how many facts there are ahead of the list's
   refine wXR ?_
   refine Nd.mk ⟨rfl, by show (0 : Int) ≤ 1; decide, by show (1 : Int) < _; decide⟩ ?_
   refine wXR ?_
   refine LdN.one (.int .i64 37) rfl (fun w hw => hw.2.2.2.1) rfl ?_
   refine wXR ?_
   refine call1 (node_c _ _ _ _ _ _) ?_
   refine wXR ?_
   have hg : Gn k.l ⟨37, [], 0, at0 ob2, _, cap2⟩ k2.l _ (4 * (D + 1) + 1) := Gn.q rfl hrk (by decide) (by omega) hgs2
   refine ⟨_, sealG _ _ _ _ _, ⟨⟨37, [], 0, at0 ob2, _, cap2⟩, k2, q5, z2, _⟩, ⟨(hret 37 (by decide)), trivial, hg.le (s2 := 9 + 8 * (q5 - p)) (by omega) (by omega), hk2, ⟨by show p ≤ q5; omega, by show q5 ≤ _; omega⟩, fun w hw => ?_⟩, rfl, ⟨wkE_refl _, wkE_refl _, wkH_nil _⟩⟩
   obtain ⟨f1, f2, f3⟩ := hf2 w hw.1
   exact ⟨f1, treeF hg.tk hw.2.1 rfl f2, f3⟩
  ·-- a kind out of a list; 38: the kind, 2: its place, (hret 38 (by decide)): V, q5: numbers, 3: how many facts there are ahead of the list's
   refine wXR ?_
   refine Nd.mk ⟨rfl, by show (0 : Int) ≤ 2; decide, by show (2 : Int) < _; decide⟩ ?_
   refine wXR ?_
   refine LdN.one (.int .i64 38) rfl (fun w hw => hw.2.2.2.1) rfl ?_
   refine wXR ?_
   refine call1 (node_c _ _ _ _ _ _) ?_
   refine wXR ?_
   have hg : Gn k.l ⟨38, [], 0, at0 ob2, _, cap2⟩ k2.l _ (4 * (D + 1) + 1) := Gn.q rfl hrk (by decide) (by omega) hgs2
   refine ⟨_, sealG _ _ _ _ _, ⟨⟨38, [], 0, at0 ob2, _, cap2⟩, k2, q5, z2, _⟩, ⟨(hret 38 (by decide)), trivial, hg.le (s2 := 9 + 8 * (q5 - p)) (by omega) (by omega), hk2, ⟨by show p ≤ q5; omega, by show q5 ≤ _; omega⟩, fun w hw => ?_⟩, rfl, ⟨wkE_refl _, wkE_refl _, wkH_nil _⟩⟩
   obtain ⟨f1, f2, f3⟩ := hf2 w hw.1
   exact ⟨f1, treeF hg.tk hw.2.1 rfl f2, f3⟩
 ·have h5 := h4 (by decide)
  refine wXR ?_
  refine callG (hs g ok (2) (by omega) k kok q z h3 A hA) [0, 1] rfl ⟨rfl, rfl, trivial⟩ rfl fun j hj => ?_
  obtain ⟨l2, ob2, cap2, k2, q4, z2, F2⟩ := j
  obtain ⟨hj, hl2⟩ := hj
  have hl2 : l2.length = 2 := hl2
  have hle2 : q ≤ q4 ∧ q4 ≤ g.l.length := hj.le
  have hk2 : KdOk k2 := hj.kd
  have hgs2 : Gs k.l l2 k2.l (l2.length + 8 * (q4 - q)) (4 * (D + 1)) := Gs.le (s := l2.length + 8 * (q4 - q)) (d := 4 * (D + 1) - 1) hj.gs (Nat.le_refl _) (by omega)
  have hf2 : ∀ w, F2 w → A w ∧ (∀ t ∈ l2, TreeF w t) ∧ KnF k2 w := hj.f
  have hv2 : ∀ t ∈ l2, V .ex t := hj.v
  have hrk : RowK (at0 ob2) cap2 l2 := rowK hj.nil hj.cap
  obtain ⟨ta, tb, rfl⟩ := len_two hl2
  have hva := hv2 ta (List.mem_cons_self ..)
  have hvb := hv2 tb (List.mem_cons_of_mem _ (List.mem_singleton.2 rfl))
  refine wXR ?_
  refine RwN.known (intG [29, 30]) rfl fun rb => ?_
  refine wXR ?_
  refine callG (pick_c g ok q4 z2 2 ⟨by decide, by decide⟩ hle2.2 F2 (fun w hw => (hA w (hf2 w hw).1).1)) [0, 1] rfl ⟨rfl, rfl, trivial⟩ rfl fun i hi3 => ?_
  obtain ⟨u, q5⟩ := i
  obtain ⟨y1, y2, y3, y4⟩ := hi3
  have y1 : u < 2 := y1
  have y2 : q4 ≤ q5 := y2
  have y3 : q5 ≤ g.l.length := y3
  have y4 : u ≠ 0 → q4 < q5 := y4
  rcases (by omega : u = 0 ∨ u = 1) with rfl | rfl
  ·-- a kind out of a list; 29: the kind, 0: its place, (.and (.inl rfl) hva hvb): V, q5: numbers, 3: how many facts there are ahead of the list's
   refine wXR ?_
   refine Nd.mk ⟨rfl, by show (0 : Int) ≤ 0; decide, by show (0 : Int) < _; decide⟩ ?_
   refine wXR ?_
   refine LdN.one (.int .i64 29) rfl (fun w hw => hw.2.2.2.1) rfl ?_
   refine wXR ?_
   refine call1 (node_c _ _ _ _ _ _) ?_
   refine wXR ?_
   have hg : Gn k.l ⟨29, [], 0, at0 ob2, _, cap2⟩ k2.l _ (4 * (D + 1) + 1) := Gn.q rfl hrk (by decide) (by omega) hgs2
   refine ⟨_, sealG _ _ _ _ _, ⟨⟨29, [], 0, at0 ob2, _, cap2⟩, k2, q5, z2, _⟩, ⟨(.and (.inl rfl) hva hvb), trivial, hg.le (s2 := 9 + 8 * (q5 - p)) (by omega) (by omega), hk2, ⟨by show p ≤ q5; omega, by show q5 ≤ _; omega⟩, fun w hw => ?_⟩, rfl, ⟨wkE_refl _, wkE_refl _, wkH_nil _⟩⟩
   obtain ⟨f1, f2, f3⟩ := hf2 w hw.1
   exact ⟨f1, treeF hg.tk hw.2.1 rfl f2, f3⟩
  ·-- a kind out of a list; 30: the kind, 1: its place, (.and (.inr rfl) hva hvb): V, q5: numbers, 3: how many facts there are ahead of the list's
   refine wXR ?_
   refine Nd.mk ⟨rfl, by show (0 : Int) ≤ 1; decide, by show (1 : Int) < _; decide⟩ ?_
   refine wXR ?_
   refine LdN.one (.int .i64 30) rfl (fun w hw => hw.2.2.2.1) rfl ?_
   refine wXR ?_
   refine call1 (node_c _ _ _ _ _ _) ?_
   refine wXR ?_
   have hg : Gn k.l ⟨30, [], 0, at0 ob2, _, cap2⟩ k2.l _ (4 * (D + 1) + 1) := Gn.q rfl hrk (by decide) (by omega) hgs2
   refine ⟨_, sealG _ _ _ _ _, ⟨⟨30, [], 0, at0 ob2, _, cap2⟩, k2, q5, z2, _⟩, ⟨(.and (.inr rfl) hva hvb), trivial, hg.le (s2 := 9 + 8 * (q5 - p)) (by omega) (by omega), hk2, ⟨by show p ≤ q5; omega, by show q5 ≤ _; omega⟩, fun w hw => ?_⟩, rfl, ⟨wkE_refl _, wkE_refl _, wkH_nil _⟩⟩
   obtain ⟨f1, f2, f3⟩ := hf2 w hw.1
   exact ⟨f1, treeF hg.tk hw.2.1 rfl f2, f3⟩
 ·have h5 := h4 (by decide)
  refine wXR ?_
  refine callG (hs g ok (1) (by omega) k kok q z h3 A hA) [0, 1] rfl ⟨rfl, rfl, trivial⟩ rfl fun j hj => ?_
  obtain ⟨l2, ob2, cap2, k2, q4, z2, F2⟩ := j
  obtain ⟨hj, hl2⟩ := hj
  have hl2 : l2.length = 1 := hl2
  have hle2 : q ≤ q4 ∧ q4 ≤ g.l.length := hj.le
  have hk2 : KdOk k2 := hj.kd
  have hgs2 : Gs k.l l2 k2.l (l2.length + 8 * (q4 - q)) (4 * (D + 1)) := Gs.le (s := l2.length + 8 * (q4 - q)) (d := 4 * (D + 1) - 1) hj.gs (Nat.le_refl _) (by omega)
  have hf2 : ∀ w, F2 w → A w ∧ (∀ t ∈ l2, TreeF w t) ∧ KnF k2 w := hj.f
  have hv2 : ∀ t ∈ l2, V .ex t := hj.v
  have hrk : RowK (at0 ob2) cap2 l2 := rowK hj.nil hj.cap
  obtain ⟨ta, rfl⟩ := List.length_eq_one_iff.1 hl2
  have hva := hv2 ta (List.mem_singleton.2 rfl)
  refine wXR ?_
  refine call1 (node_c _ _ _ _ _ _) ?_
  refine wXR ?_
  have hg : Gn k.l ⟨31, [], 0, at0 ob2, _, cap2⟩ k2.l _ (4 * (D + 1) + 1) := Gn.q rfl hrk (by decide) (by omega) hgs2
  refine ⟨_, sealG _ _ _ _ _, ⟨⟨31, [], 0, at0 ob2, _, cap2⟩, k2, q4, z2, _⟩, ⟨(.not hva), trivial, hg.le (s2 := 9 + 8 * (q4 - p)) (by omega) (by omega), hk2, ⟨by show p ≤ q4; omega, by show q4 ≤ _; omega⟩, fun w hw => ?_⟩, rfl, ⟨wkE_refl _, wkE_refl _, wkH_nil _⟩⟩
  obtain ⟨f1, f2, f3⟩ := hf2 w hw.1
  exact ⟨f1, treeF hg.tk hw.2.1 rfl f2, f3⟩
 ·have h5 := h4 (by decide)
  refine wXR ?_
  refine callG (ha g ok true k kok q z h3 A hA) [0, 1] rfl ⟨rfl, rfl, trivial⟩ rfl fun j hj => ?_
  obtain ⟨l2, b2, a2, cap2, k2, q4, z2, F2⟩ := j
  have hle2 : q ≤ q4 ∧ q4 ≤ g.l.length := hj.le
  have hgs2 : Gs k.l (l2 ++ b2) k2.l (8 * (q4 - q)) (4 * (D + 1) + 1) := hj.gs
  refine wXR ?_
  refine call1 (node_c _ _ _ _ _ _) ?_
  refine wXR ?_
  have hg : Gn k.l ⟨19, [], 0, a2, l2 ++ b2, cap2⟩ k2.l (8 * (q4 - q) + 1) (4 * (D + 1) + 2) := Gn.q rfl hj.row (Nat.zero_le _) (by omega) hgs2
  refine ⟨_, sealG _ _ _ _ _, ⟨⟨19, [], 0, a2, l2 ++ b2, cap2⟩, k2, q4, z2, _⟩, ⟨(V.super (l := l2) (b := b2) hj.vl hj.vb hj.b1), trivial, hg.le (s2 := 9 + 8 * (q4 - p)) (by omega) (by omega), hj.kd, ⟨by show p ≤ q4; omega, hle2.2⟩, fun w hw => ?_⟩, rfl, ⟨wkE_refl _, wkE_refl _, wkH_nil _⟩⟩
  obtain ⟨f1, f2, f3⟩ := hj.f w hw.1
  exact ⟨f1, treeF hg.tk f2.1 rfl f2.2, f3⟩
 ·have h5 := h4 (by decide)
  refine wXR ?_
  refine callG (ha g ok false k kok q z h3 A hA) [0, 1] rfl ⟨rfl, rfl, trivial⟩ rfl fun j hj => ?_
  obtain ⟨l2, b2, a2, cap2, k2, q4, z2, F2⟩ := j
  obtain rfl : b2 = [] := hj.nb rfl
  have hle2 : q ≤ q4 ∧ q4 ≤ g.l.length := hj.le
  have hgs2 : Gs k.l (l2 ++ []) k2.l (8 * (q4 - q)) (4 * (D + 1) + 1) := hj.gs
  have hva : ∀ t ∈ l2 ++ [], V .arg t := by rw [List.append_nil]; exact hj.vl
  refine wXR ?_
  refine RwN.known (intG [8, 21]) rfl fun rb => ?_
  refine wXR ?_
  refine callG (pick_c g ok q4 z2 2 ⟨by decide, by decide⟩ hle2.2 F2 (fun w hw => hA1 w (hj.f w hw).1)) [0, 1] rfl ⟨rfl, rfl, trivial⟩ rfl fun i hi3 => ?_
  obtain ⟨u, q5⟩ := i
  obtain ⟨y1, y2, y3, y4⟩ := hi3
  have y1 : u < 2 := y1
  have y2 : q4 ≤ q5 := y2
  have y3 : q5 ≤ g.l.length := y3
  have y4 : u ≠ 0 → q4 < q5 := y4
  rcases (by omega : u = 0 ∨ u = 1) with rfl | rfl
  ·-- an Array or a Yield; 8: op, 0: its place, (.args (.inl rfl) hva): V
   refine wXR ?_
   refine Nd.mk ⟨rfl, by show (0 : Int) ≤ 0; decide, by show (0 : Int) < _; decide⟩ ?_
   refine wXR ?_
   refine LdN.one (.int .i64 8) rfl (fun w hw => hw.2.2.1) rfl ?_
   refine wXR ?_
   refine call1 (node_c _ _ _ _ _ _) ?_
   refine wXR ?_
   have hg : Gn k.l ⟨8, [], 0, a2, l2 ++ [], cap2⟩ k2.l (8 * (q4 - q) + 1) (4 * (D + 1) + 2) := Gn.q rfl hj.row (Nat.zero_le _) (by omega) hgs2
   refine ⟨_, sealG _ _ _ _ _, ⟨⟨8, [], 0, a2, l2 ++ [], cap2⟩, k2, q5, z2, _⟩, ⟨(.args (.inl rfl) hva), trivial, hg.le (s2 := 9 + 8 * (q5 - p)) (by omega) (by omega), hj.kd, ⟨by show p ≤ q5; omega, y3⟩, fun w hw => ?_⟩, rfl, ⟨wkE_refl _, wkE_refl _, wkH_nil _⟩⟩
   obtain ⟨f1, f2, f3⟩ := hj.f w hw.1
   exact ⟨f1, treeF hg.tk f2.1 rfl f2.2, f3⟩
  ·-- an Array or a Yield; 21: op, 1: its place, (.args (.inr rfl) hva): V
   refine wXR ?_
   refine Nd.mk ⟨rfl, by show (0 : Int) ≤ 1; decide, by show (1 : Int) < _; decide⟩ ?_
   refine wXR ?_
   refine LdN.one (.int .i64 21) rfl (fun w hw => hw.2.2.1) rfl ?_
   refine wXR ?_
   refine call1 (node_c _ _ _ _ _ _) ?_
   refine wXR ?_
   have hg : Gn k.l ⟨21, [], 0, a2, l2 ++ [], cap2⟩ k2.l (8 * (q4 - q) + 1) (4 * (D + 1) + 2) := Gn.q rfl hj.row (Nat.zero_le _) (by omega) hgs2
   refine ⟨_, sealG _ _ _ _ _, ⟨⟨21, [], 0, a2, l2 ++ [], cap2⟩, k2, q5, z2, _⟩, ⟨(.args (.inr rfl) hva), trivial, hg.le (s2 := 9 + 8 * (q5 - p)) (by omega) (by omega), hj.kd, ⟨by show p ≤ q5; omega, y3⟩, fun w hw => ?_⟩, rfl, ⟨wkE_refl _, wkE_refl _, wkH_nil _⟩⟩
   obtain ⟨f1, f2, f3⟩ := hj.f w hw.1
   exact ⟨f1, treeF hg.tk f2.1 rfl f2.2, f3⟩
 ·have h5 := h4 (by decide)
  refine wXR ?_
  refine callG (pick_c g ok q z 3 ⟨by decide, by decide⟩ h3 A hA1) [0, 1] rfl ⟨rfl, rfl, trivial⟩ rfl fun i hi3 => ?_
  obtain ⟨y, q2⟩ := i
  obtain ⟨y1, y2, y3, y4⟩ := hi3
  have y1 : y < 3 := y1
  have y2 : q ≤ q2 := y2
  have y3 : q2 ≤ g.l.length := y3
  have y4 : y ≠ 0 → q < q2 := y4
  have hyw : IntKind.i64.wrap (2 * (y : Int)) = ((2 * y : Nat) : Int) := by rw [wrap_i64 (by omega)]; omega
  refine wXR ?_
  refine SpecH.args (args' := pvs [gP g, .int .i64 ((2 * y : Nat) : Int), .int .i64 ((D + 1 : Nat) : Int), knV k]) (by show pvs [gP g, .int .i64 (IntKind.i64.wrap (2 * (y : Int))), .int .i64 ((D + 1 : Nat) : Int), knV k] = _; rw [hyw]) ?_
  refine callG (hs g ok (2 * y) (by omega) k kok q2 z y3 A hA) [0, 1] rfl ⟨rfl, rfl, trivial⟩ rfl fun j hj => ?_
  obtain ⟨l2, ob2, cap2, k2, q4, z2, F2⟩ := j
  obtain ⟨hj, hl2⟩ := hj
  have hl2 : l2.length = 2 * y := hl2
  have hle2 : q2 ≤ q4 ∧ q4 ≤ g.l.length := hj.le
  have hk2 : KdOk k2 := hj.kd
  have hgs2 : Gs k.l l2 k2.l (l2.length + 8 * (q4 - q2)) (4 * (D + 1)) := Gs.le (s := l2.length + 8 * (q4 - q2)) (d := 4 * (D + 1) - 1) hj.gs (Nat.le_refl _) (by omega)
  have hf2 : ∀ w, F2 w → A w ∧ (∀ t ∈ l2, TreeF w t) ∧ KnF k2 w := hj.f
  have hv2 : ∀ t ∈ l2, V .ex t := hj.v
  have hrk : RowK (at0 ob2) cap2 l2 := rowK hj.nil hj.cap
  refine wXR ?_
  refine call1 (node_c _ _ _ _ _ _) ?_
  refine wXR ?_
  have y5 : 4 * y ≤ 8 * (q2 - q) := by
   by_cases h : y = 0
   ·omega
   ·have := y4 h; omega
  have hg : Gn k.l ⟨9, [], 0, at0 ob2, _, cap2⟩ k2.l _ (4 * (D + 1) + 1) := Gn.q rfl hrk (by decide) (by omega) hgs2
  refine ⟨_, sealG _ _ _ _ _, ⟨⟨9, [], 0, at0 ob2, _, cap2⟩, k2, q4, z2, _⟩, ⟨(.hash (by omega) hv2), trivial, hg.le (s2 := 9 + 8 * (q4 - p)) (by omega) (by omega), hk2, ⟨by show p ≤ q4; omega, by show q4 ≤ _; omega⟩, fun w hw => ?_⟩, rfl, ⟨wkE_refl _, wkE_refl _, wkH_nil _⟩⟩
  obtain ⟨f1, f2, f3⟩ := hf2 w hw.1
  exact ⟨f1, treeF hg.tk hw.2.1 rfl f2, f3⟩
 ·have h5 := h4 (by decide)
  refine wXR ?_
  refine callG (hs g ok (1) (by omega) k kok q z h3 A hA) [0, 1] rfl ⟨rfl, rfl, trivial⟩ rfl fun j hj => ?_
  obtain ⟨l2, ob2, cap2, k2, q4, z2, F2⟩ := j
  obtain ⟨hj, hl2⟩ := hj
  have hl2 : l2.length = 1 := hl2
  have hle2 : q ≤ q4 ∧ q4 ≤ g.l.length := hj.le
  have hk2 : KdOk k2 := hj.kd
  have hgs2 : Gs k.l l2 k2.l (l2.length + 8 * (q4 - q)) (4 * (D + 1)) := Gs.le (s := l2.length + 8 * (q4 - q)) (d := 4 * (D + 1) - 1) hj.gs (Nat.le_refl _) (by omega)
  have hf2 : ∀ w, F2 w → A w ∧ (∀ t ∈ l2, TreeF w t) ∧ KnF k2 w := hj.f
  have hv2 : ∀ t ∈ l2, V .ex t := hj.v
  have hrk : RowK (at0 ob2) cap2 l2 := rowK hj.nil hj.cap
  obtain ⟨ta, rfl⟩ := List.length_eq_one_iff.1 hl2
  have hva := hv2 ta (List.mem_singleton.2 rfl)
  refine wXR ?_
  refine callG (pick_c g ok q4 z2 3 ⟨by decide, by decide⟩ hle2.2 F2 (fun w hw => hA1 w (hf2 w hw).1)) [0, 1] rfl ⟨rfl, rfl, trivial⟩ rfl fun i hi3 => ?_
  obtain ⟨u, q5⟩ := i
  obtain ⟨y1, y2, y3, y4⟩ := hi3
  have y1 : u < 3 := y1
  have y2 : q4 ≤ q5 := y2
  have y3 : q5 ≤ g.l.length := y3
  have y4 : u ≠ 0 → q4 < q5 := y4
  rcases (by omega : u = 0 ∨ u = 1 ∨ u = 2) with rfl | rfl | rfl
  ·-- the kind and the name that a number chooses; 13: op, [64, 97]: name, (.seti icC.2.2.2 hva): V, 0: the number
   refine wXR ?_
   refine DrawN.tree [1, 5, 8, 10] (.cons 0 (.cons 2 (.cons 3 (.cons 4 (.cons 6 (.cons 7 (.cons 9 (.cons 11 (.cons 12 .nil .nil) .nil) .nil) .nil) .nil) .nil) (.cons 4 (.cons 3 (.cons 6 (.cons 7 (.cons 9 (.cons 11 (.cons 12 .nil .nil) .nil) .nil) .nil) .nil) (.cons 6 (.cons 3 (.cons 7 (.cons 9 (.cons 11 (.cons 12 .nil .nil) .nil) .nil) .nil) (.cons 7 (.cons 3 (.cons 9 (.cons 11 (.cons 12 .nil .nil) .nil) .nil) .nil) .nil)) .nil)) .nil)) (.cons 4 (.cons 2 (.cons 3 (.cons 6 (.cons 7 (.cons 9 (.cons 11 (.cons 12 .nil .nil) .nil) .nil) .nil) .nil) (.cons 6 (.cons 3 (.cons 7 (.cons 9 (.cons 11 (.cons 12 .nil .nil) .nil) .nil) .nil) (.cons 7 (.cons 3 (.cons 9 (.cons 11 (.cons 12 .nil .nil) .nil) .nil) .nil) .nil)) .nil)) (.cons 6 (.cons 2 (.cons 3 (.cons 7 (.cons 9 (.cons 11 (.cons 12 .nil .nil) .nil) .nil) .nil) (.cons 7 (.cons 3 (.cons 9 (.cons 11 (.cons 12 .nil .nil) .nil) .nil) .nil) .nil)) (.cons 7 (.cons 2 (.cons 3 (.cons 9 (.cons 11 (.cons 12 .nil .nil) .nil) .nil) .nil) .nil) .nil)) .nil)) .nil)) (.cons 4 (.cons 0 (.cons 2 (.cons 3 (.cons 6 (.cons 7 (.cons 9 (.cons 11 (.cons 12 .nil .nil) .nil) .nil) .nil) .nil) (.cons 6 (.cons 3 (.cons 7 (.cons 9 (.cons 11 (.cons 12 .nil .nil) .nil) .nil) .nil) (.cons 7 (.cons 3 (.cons 9 (.cons 11 (.cons 12 .nil .nil) .nil) .nil) .nil) .nil)) .nil)) (.cons 6 (.cons 2 (.cons 3 (.cons 7 (.cons 9 (.cons 11 (.cons 12 .nil .nil) .nil) .nil) .nil) (.cons 7 (.cons 3 (.cons 9 (.cons 11 (.cons 12 .nil .nil) .nil) .nil) .nil) .nil)) (.cons 7 (.cons 2 (.cons 3 (.cons 9 (.cons 11 (.cons 12 .nil .nil) .nil) .nil) .nil) .nil) .nil)) .nil)) (.cons 6 (.cons 0 (.cons 2 (.cons 3 (.cons 7 (.cons 9 (.cons 11 (.cons 12 .nil .nil) .nil) .nil) .nil) (.cons 7 (.cons 3 (.cons 9 (.cons 11 (.cons 12 .nil .nil) .nil) .nil) .nil) .nil)) (.cons 7 (.cons 2 (.cons 3 (.cons 9 (.cons 11 (.cons 12 .nil .nil) .nil) .nil) .nil) .nil) .nil)) (.cons 7 (.cons 0 (.cons 2 (.cons 3 (.cons 9 (.cons 11 (.cons 12 .nil .nil) .nil) .nil) .nil) .nil) .nil) .nil)) .nil)) .nil)) 9 (by decide +kernel) ?_
   (conv => whnf)
   repeat' (first | (refine And.intro ?_ ?_ <;> (conv => whnf)) | (refine RwN.own ?_; conv => whnf) | (refine Nd.mk (by first | decide +kernel | omega | exact ⟨by show (0 : Int) ≤ 0; decide, by show (0 : Int) < _; decide⟩) ?_; conv => whnf) | (refine call1 (node_c _ _ _ _ _ _) ?_; conv => whnf) | (refine VrN.keep ?_; conv => whnf) | (refine RdN.intro _ rfl (by rfl) ?_; conv => whnf))
   all_goals
    have hg : Gn k.l ⟨13, [64, 97], 0, at0 ob2, _, cap2⟩ k2.l _ (4 * (D + 1) + 1) := Gn.q rfl hrk (by decide) (by omega) hgs2
    refine ⟨_, sealG _ _ _ _ _, ⟨⟨13, [64, 97], 0, at0 ob2, _, cap2⟩, k2, q5, z2, _⟩, ⟨(.seti icC.2.2.2 hva), trivial, hg.le (s2 := 9 + 8 * (q5 - p)) (by omega) (by omega), hk2, ⟨by show p ≤ q5; omega, by show q5 ≤ _; omega⟩, fun w hw => ?_⟩, rfl, ⟨wkE_refl _, wkE_refl _, wkH_nil _⟩⟩
    obtain ⟨f1, f2, f3⟩ := hf2 w hw.1
    exact ⟨f1, treeF hg.tk hw.2.1 rfl f2, f3⟩
  ·-- the kind and the name that a number chooses; 16: op, [67]: name, (.scope (.inr rfl) icC.1 hva): V, 1: the number
   refine wXR ?_
   refine DrawN.tree [1, 5, 8, 10] (.cons 0 (.cons 2 (.cons 3 (.cons 4 (.cons 6 (.cons 7 (.cons 9 (.cons 11 (.cons 12 .nil .nil) .nil) .nil) .nil) .nil) .nil) (.cons 4 (.cons 3 (.cons 6 (.cons 7 (.cons 9 (.cons 11 (.cons 12 .nil .nil) .nil) .nil) .nil) .nil) (.cons 6 (.cons 3 (.cons 7 (.cons 9 (.cons 11 (.cons 12 .nil .nil) .nil) .nil) .nil) (.cons 7 (.cons 3 (.cons 9 (.cons 11 (.cons 12 .nil .nil) .nil) .nil) .nil) .nil)) .nil)) .nil)) (.cons 4 (.cons 2 (.cons 3 (.cons 6 (.cons 7 (.cons 9 (.cons 11 (.cons 12 .nil .nil) .nil) .nil) .nil) .nil) (.cons 6 (.cons 3 (.cons 7 (.cons 9 (.cons 11 (.cons 12 .nil .nil) .nil) .nil) .nil) (.cons 7 (.cons 3 (.cons 9 (.cons 11 (.cons 12 .nil .nil) .nil) .nil) .nil) .nil)) .nil)) (.cons 6 (.cons 2 (.cons 3 (.cons 7 (.cons 9 (.cons 11 (.cons 12 .nil .nil) .nil) .nil) .nil) (.cons 7 (.cons 3 (.cons 9 (.cons 11 (.cons 12 .nil .nil) .nil) .nil) .nil) .nil)) (.cons 7 (.cons 2 (.cons 3 (.cons 9 (.cons 11 (.cons 12 .nil .nil) .nil) .nil) .nil) .nil) .nil)) .nil)) .nil)) (.cons 4 (.cons 0 (.cons 2 (.cons 3 (.cons 6 (.cons 7 (.cons 9 (.cons 11 (.cons 12 .nil .nil) .nil) .nil) .nil) .nil) (.cons 6 (.cons 3 (.cons 7 (.cons 9 (.cons 11 (.cons 12 .nil .nil) .nil) .nil) .nil) (.cons 7 (.cons 3 (.cons 9 (.cons 11 (.cons 12 .nil .nil) .nil) .nil) .nil) .nil)) .nil)) (.cons 6 (.cons 2 (.cons 3 (.cons 7 (.cons 9 (.cons 11 (.cons 12 .nil .nil) .nil) .nil) .nil) (.cons 7 (.cons 3 (.cons 9 (.cons 11 (.cons 12 .nil .nil) .nil) .nil) .nil) .nil)) (.cons 7 (.cons 2 (.cons 3 (.cons 9 (.cons 11 (.cons 12 .nil .nil) .nil) .nil) .nil) .nil) .nil)) .nil)) (.cons 6 (.cons 0 (.cons 2 (.cons 3 (.cons 7 (.cons 9 (.cons 11 (.cons 12 .nil .nil) .nil) .nil) .nil) (.cons 7 (.cons 3 (.cons 9 (.cons 11 (.cons 12 .nil .nil) .nil) .nil) .nil) .nil)) (.cons 7 (.cons 2 (.cons 3 (.cons 9 (.cons 11 (.cons 12 .nil .nil) .nil) .nil) .nil) .nil) .nil)) (.cons 7 (.cons 0 (.cons 2 (.cons 3 (.cons 9 (.cons 11 (.cons 12 .nil .nil) .nil) .nil) .nil) .nil) .nil) .nil)) .nil)) .nil)) 9 (by decide +kernel) ?_
   (conv => whnf)
   repeat' (first | (refine And.intro ?_ ?_ <;> (conv => whnf)) | (refine RwN.own ?_; conv => whnf) | (refine Nd.mk (by first | decide +kernel | omega | exact ⟨by show (0 : Int) ≤ 1; decide, by show (1 : Int) < _; decide⟩) ?_; conv => whnf) | (refine call1 (node_c _ _ _ _ _ _) ?_; conv => whnf) | (refine VrN.keep ?_; conv => whnf) | (refine RdN.intro _ rfl (by rfl) ?_; conv => whnf))
   all_goals
    have hg : Gn k.l ⟨16, [67], 0, at0 ob2, _, cap2⟩ k2.l _ (4 * (D + 1) + 1) := Gn.q rfl hrk (by decide) (by omega) hgs2
    refine ⟨_, sealG _ _ _ _ _, ⟨⟨16, [67], 0, at0 ob2, _, cap2⟩, k2, q5, z2, _⟩, ⟨(.scope (.inr rfl) icC.1 hva), trivial, hg.le (s2 := 9 + 8 * (q5 - p)) (by omega) (by omega), hk2, ⟨by show p ≤ q5; omega, by show q5 ≤ _; omega⟩, fun w hw => ?_⟩, rfl, ⟨wkE_refl _, wkE_refl _, wkH_nil _⟩⟩
    obtain ⟨f1, f2, f3⟩ := hf2 w hw.1
    exact ⟨f1, treeF hg.tk hw.2.1 rfl f2, f3⟩
  ·-- the kind and the name that a number chooses; 15: op, [68]: name, (.scope (.inl rfl) icC.2.1 hva): V, 2: the number
   refine wXR ?_
   refine DrawN.tree [1, 5, 8, 10] (.cons 0 (.cons 2 (.cons 3 (.cons 4 (.cons 6 (.cons 7 (.cons 9 (.cons 11 (.cons 12 .nil .nil) .nil) .nil) .nil) .nil) .nil) (.cons 4 (.cons 3 (.cons 6 (.cons 7 (.cons 9 (.cons 11 (.cons 12 .nil .nil) .nil) .nil) .nil) .nil) (.cons 6 (.cons 3 (.cons 7 (.cons 9 (.cons 11 (.cons 12 .nil .nil) .nil) .nil) .nil) (.cons 7 (.cons 3 (.cons 9 (.cons 11 (.cons 12 .nil .nil) .nil) .nil) .nil) .nil)) .nil)) .nil)) (.cons 4 (.cons 2 (.cons 3 (.cons 6 (.cons 7 (.cons 9 (.cons 11 (.cons 12 .nil .nil) .nil) .nil) .nil) .nil) (.cons 6 (.cons 3 (.cons 7 (.cons 9 (.cons 11 (.cons 12 .nil .nil) .nil) .nil) .nil) (.cons 7 (.cons 3 (.cons 9 (.cons 11 (.cons 12 .nil .nil) .nil) .nil) .nil) .nil)) .nil)) (.cons 6 (.cons 2 (.cons 3 (.cons 7 (.cons 9 (.cons 11 (.cons 12 .nil .nil) .nil) .nil) .nil) (.cons 7 (.cons 3 (.cons 9 (.cons 11 (.cons 12 .nil .nil) .nil) .nil) .nil) .nil)) (.cons 7 (.cons 2 (.cons 3 (.cons 9 (.cons 11 (.cons 12 .nil .nil) .nil) .nil) .nil) .nil) .nil)) .nil)) .nil)) (.cons 4 (.cons 0 (.cons 2 (.cons 3 (.cons 6 (.cons 7 (.cons 9 (.cons 11 (.cons 12 .nil .nil) .nil) .nil) .nil) .nil) (.cons 6 (.cons 3 (.cons 7 (.cons 9 (.cons 11 (.cons 12 .nil .nil) .nil) .nil) .nil) (.cons 7 (.cons 3 (.cons 9 (.cons 11 (.cons 12 .nil .nil) .nil) .nil) .nil) .nil)) .nil)) (.cons 6 (.cons 2 (.cons 3 (.cons 7 (.cons 9 (.cons 11 (.cons 12 .nil .nil) .nil) .nil) .nil) (.cons 7 (.cons 3 (.cons 9 (.cons 11 (.cons 12 .nil .nil) .nil) .nil) .nil) .nil)) (.cons 7 (.cons 2 (.cons 3 (.cons 9 (.cons 11 (.cons 12 .nil .nil) .nil) .nil) .nil) .nil) .nil)) .nil)) (.cons 6 (.cons 0 (.cons 2 (.cons 3 (.cons 7 (.cons 9 (.cons 11 (.cons 12 .nil .nil) .nil) .nil) .nil) (.cons 7 (.cons 3 (.cons 9 (.cons 11 (.cons 12 .nil .nil) .nil) .nil) .nil) .nil)) (.cons 7 (.cons 2 (.cons 3 (.cons 9 (.cons 11 (.cons 12 .nil .nil) .nil) .nil) .nil) .nil) .nil)) (.cons 7 (.cons 0 (.cons 2 (.cons 3 (.cons 9 (.cons 11 (.cons 12 .nil .nil) .nil) .nil) .nil) .nil) .nil) .nil)) .nil)) .nil)) 9 (by decide +kernel) ?_
   (conv => whnf)
   repeat' (first | (refine And.intro ?_ ?_ <;> (conv => whnf)) | (refine RwN.own ?_; conv => whnf) | (refine Nd.mk (by first | decide +kernel | omega | exact ⟨by show (0 : Int) ≤ 2; decide, by show (2 : Int) < _; decide⟩) ?_; conv => whnf) | (refine call1 (node_c _ _ _ _ _ _) ?_; conv => whnf) | (refine VrN.keep ?_; conv => whnf) | (refine RdN.intro _ rfl (by rfl) ?_; conv => whnf))
   all_goals
    have hg : Gn k.l ⟨15, [68], 0, at0 ob2, _, cap2⟩ k2.l _ (4 * (D + 1) + 1) := Gn.q rfl hrk (by decide) (by omega) hgs2
    refine ⟨_, sealG _ _ _ _ _, ⟨⟨15, [68], 0, at0 ob2, _, cap2⟩, k2, q5, z2, _⟩, ⟨(.scope (.inl rfl) icC.2.1 hva), trivial, hg.le (s2 := 9 + 8 * (q5 - p)) (by omega) (by omega), hk2, ⟨by show p ≤ q5; omega, by show q5 ≤ _; omega⟩, fun w hw => ?_⟩, rfl, ⟨wkE_refl _, wkE_refl _, wkH_nil _⟩⟩
    obtain ⟨f1, f2, f3⟩ := hf2 w hw.1
    exact ⟨f1, treeF hg.tk hw.2.1 rfl f2, f3⟩
 ·have h5 := h4 (by decide)
  refine wX ?_
  refine callG (hq g ok k (by assumption) q z h3 A hA) [0, 1] rfl ⟨rfl, rfl, trivial⟩ rfl fun j6 hj6 => ?_
  obtain ⟨s6, k6, q6, z6, F6⟩ := j6
  have hls6 : q ≤ q6 ∧ q6 ≤ g.l.length := hj6.le
  have hgq6 : Gn k.l s6 k6.l (1 + 8 * (q6 - q)) (4 * (D + 1)) := hj6.gn
  have hks6 : KdOk k6 := hj6.kd
  have hvs6 : V .ex s6 := hj6.v
  have hos6 : s6.op = 26 := hj6.q
  have hfs6 : ∀ w, F6 w → A w ∧ TreeF w s6 ∧ KnF k6 w := hj6.f
  refine wXR ?_
  refine RwN.known (nodesC [s6]) rfl fun nb => ?_
  refine wXR ?_
  refine callG (pick_c g ok q6 z6 2 ⟨by decide, by decide⟩ hls6.2 F6 (fun w hw => hA1 w (hfs6 w hw).1)) [0, 1] rfl ⟨rfl, rfl, trivial⟩ rfl fun i hi3 => ?_
  obtain ⟨u, q5⟩ := i
  obtain ⟨y1, y2, y3, y4⟩ := hi3
  have y1 : u < 2 := y1
  have y2 : q6 ≤ q5 := y2
  have y3 : q5 ≤ g.l.length := y3
  have y4 : u ≠ 0 → q6 < q5 := y4
  refine wXR ?_
  refine brd_eq (fun h6 => ?_) (fun h6 => ?_)
  ·have y5 := y4 (by omega)
   refine wXR ?_
   refine call1 (node_c _ _ _ _ _ _) ?_
   refine wXR ?_
   refine RwN.known (nodesC [⟨5, [97, 34, 98], 0, none, [], 0⟩]) rfl fun sb => ?_
   refine wXR ?_
   refine call1 (node_c _ _ _ _ _ _) ?_
   refine wXR ?_
   refine RwN.own ?_
   refine wXR ?_
   try refine Nd.mk ⟨Nat.le_refl 1, rfl, rfl⟩ ?_
   (conv => whnf)
   refine AppN.grow 4 (nodesC [s6]) (nodeC ⟨5, [99], 0, none, [], 0⟩) rfl rfl ⟨Nat.le_refl 1, ⟨by show (1 + 1) * 56 ≤ _; omega, by show 1 + 1 < _; omega⟩, by decide⟩ fun b7 c7 g17 g27 => ?_
   refine wXR ?_
   refine app_any (n := 1) (m := 2) 5 (nodesC [⟨5, [97, 34, 98], 0, none, [], 0⟩]) (nodesC [s6, ⟨5, [99], 0, none, [], 0⟩]) rfl (Nat.le_refl 1) (fun _ => rfl) (nodesC_len _) (nodesC_plain _) (fun w hw j v hv => (hw.2.2.1 : SlAt (some ⟨b7, 0, none⟩) (2 * 4) (nodesC [s6, ⟨5, [99], 0, none, [], 0⟩]) w).cell hv) ⟨⟨by show (1 + 2) * 56 ≤ _; omega, by show 1 + 2 < _; omega⟩, by decide⟩ fun b8 c8 g8 => ?_
   refine wXR ?_
   refine call1 (node_c _ _ _ _ _ _) ?_
   refine wXR ?_
   have ha5 : Gn k.l ⟨5, [97, 34, 98], 0, none, [], 0⟩ k.l 1 (4 * (D + 1)) := (Gn.leaf (d := 0) rfl (by decide)).le (Nat.le_refl _) (by omega)
   have hc5 : Gn k6.l ⟨5, [99], 0, none, [], 0⟩ k6.l 1 (4 * (D + 1)) := (Gn.leaf (d := 0) rfl (by decide)).le (Nat.le_refl _) (by omega)
   have hg : Gn k.l ⟨7, [], 0, some ⟨b8, 0, none⟩, [⟨5, [97, 34, 98], 0, none, [], 0⟩, s6, ⟨5, [99], 0, none, [], 0⟩], c8⟩ k6.l (1 + (1 + 8 * (q6 - q) + 1) + 1) (4 * (D + 1) + 1) := Gn.q rfl (.some g8) (Nat.zero_le _) (by omega) (Gs.cons ha5 (Gs.cons hgq6 hc5.s))
   refine ⟨_, sealG _ _ _ _ _, ⟨⟨7, [], 0, some ⟨b8, 0, none⟩, [⟨5, [97, 34, 98], 0, none, [], 0⟩, s6, ⟨5, [99], 0, none, [], 0⟩], c8⟩, k6, q5, z6, _⟩, ⟨.dstr3 hvs6 hos6 (by decide) (by decide), trivial, hg.le (s2 := 9 + 8 * (q5 - p)) (by omega) (by omega), hks6, ⟨by show p ≤ q5; omega, y3⟩, fun w hw => ?_⟩, rfl, ⟨wkE_refl _, wkE_refl _, wkH_nil _⟩⟩
   obtain ⟨f1, f2, f3⟩ := hfs6 w hw.1
   exact ⟨f1, treeF hg.tk hw.2.2.1 rfl (allC (f0 ha5.tk rfl) (two_mem f2 (f0 hc5.tk rfl))), f3⟩
  ·refine wXR ?_
   refine call1 (node_c _ _ _ _ _ _) ?_
   refine wXR ?_
   have hg : Gn k.l ⟨7, [], 0, some ⟨nb, 0, none⟩, [s6], 1⟩ k6.l (1 + 8 * (q6 - q) + 1) (4 * (D + 1) + 1) := Gn.q rfl (.some (Nat.le_refl 1)) (Nat.zero_le _) (by omega) hgq6.s
   refine ⟨_, sealG _ _ _ _ _, ⟨⟨7, [], 0, some ⟨nb, 0, none⟩, [s6], 1⟩, k6, q5, z6, _⟩, ⟨.dstr1 hvs6 hos6, trivial, hg.le (s2 := 9 + 8 * (q5 - p)) (by omega) (by omega), hks6, ⟨by show p ≤ q5; omega, y3⟩, fun w hw => ?_⟩, rfl, ⟨wkE_refl _, wkE_refl _, wkH_nil _⟩⟩
   obtain ⟨f1, f2, f3⟩ := hfs6 w hw.1
   exact ⟨f1, treeF hg.tk hw.2.1 rfl (one_mem f2), f3⟩
 ·have h5 := h4 (by decide)
  refine wXR ?_
  refine RwN.known (strsC aliL) rfl fun rbx => ?_
  refine wXR ?_
  refine SpecH.shut 3 rfl ?_
  refine callG (text_c g ok q z h3 A _ (fun w hw => (hA w hw).1) (some ⟨rbx, 0, none⟩) aliL _ ⟨by decide, by decide⟩ rfl (fun w hw => hw)) [0, 1, 3] rfl ⟨rfl, rfl, rfl, trivial⟩ rfl fun i hi2 => ?_
  obtain ⟨x, q2⟩ := i
  obtain ⟨hmx, hqx, hrx⟩ := hi2
  have hmx : x ∈ aliL := hmx
  have hqx : q ≤ q2 := hqx
  have hrx : q2 ≤ g.l.length := hrx
  have hxv := aliL_v x hmx
  refine wXR ?_
  refine RwN.known (strsC barL) rfl fun rby => ?_
  refine wXR ?_
  refine SpecH.shut 4 rfl ?_
  refine callG (text_c g ok q2 z hrx A _ (fun w hw => (hA w hw).1) (some ⟨rby, 0, none⟩) barL _ ⟨by decide, by decide⟩ rfl (fun w hw => hw)) [0, 1, 4] rfl ⟨rfl, rfl, rfl, trivial⟩ rfl fun i hi2 => ?_
  obtain ⟨y, q3⟩ := i
  obtain ⟨hmy, hqy, hry⟩ := hi2
  have hmy : y ∈ barL := hmy
  have hqy : q2 ≤ q3 := hqy
  have hry : q3 ≤ g.l.length := hry
  have hyv := barL_v y hmy
  refine wXR ?_
  refine call1 (node_c _ _ _ _ _ _) ?_
  refine wXR ?_
  have hgy : Gn k.l ⟨6, y, 0, none, [], 0⟩ k.l 1 1 := Gn.leaf (d := 0) rfl hyv.2
  refine RwN.known (nodesC [⟨6, y, 0, none, [], 0⟩]) rfl fun nb => ?_
  refine wXR ?_
  refine call1 (node_c _ _ _ _ _ _) ?_
  refine wXR ?_
  have hg : Gn k.l ⟨43, x, 0, some ⟨nb, 0, none⟩, [⟨6, y, 0, none, [], 0⟩], 1⟩ k.l 2 2 := Gn.q (s := 1) (d := 1) rfl (.some (Nat.le_refl 1)) hxv.2 (by omega) hgy.s
  refine ⟨_, sealG _ _ _ _ _, ⟨⟨43, x, 0, some ⟨nb, 0, none⟩, [⟨6, y, 0, none, [], 0⟩], 1⟩, k, q3, z, _⟩, ⟨.alias hxv.1 hyv.1, trivial, hg.le (s2 := 9 + 8 * (q3 - p)) (by omega) (by omega), kok, ⟨by show p ≤ q3; omega, hry⟩, fun w hw => ⟨hw.1, treeF hg.tk hw.2.2.2.1 rfl (one_mem (f0 hgy.tk rfl)), (hA w hw.1).2⟩⟩, rfl, ⟨wkE_refl _, wkE_refl _, wkH_nil _⟩⟩
 ·have h5 := h4 (by decide)
  refine wXR ?_
  refine RwN.known (strsC undL) rfl fun rbx => ?_
  refine wXR ?_
  refine SpecH.shut 3 rfl ?_
  refine callG (text_c g ok q z h3 A _ (fun w hw => (hA w hw).1) (some ⟨rbx, 0, none⟩) undL _ ⟨by decide, by decide⟩ rfl (fun w hw => hw)) [0, 1, 3] rfl ⟨rfl, rfl, rfl, trivial⟩ rfl fun i hi2 => ?_
  obtain ⟨x, q2⟩ := i
  obtain ⟨hmx, hqx, hrx⟩ := hi2
  have hmx : x ∈ undL := hmx
  have hqx : q ≤ q2 := hqx
  have hrx : q2 ≤ g.l.length := hrx
  have hxv := undL_v x hmx
  refine wXR ?_
  refine call1 (node_c _ _ _ _ _ _) ?_
  refine wXR ?_
  have hg : Gn k.l ⟨44, x, 0, none, [], 0⟩ k.l 1 1 := Gn.leaf (d := 0) rfl hxv.2
  refine ⟨_, sealG _ _ _ _ _, ⟨⟨44, x, 0, none, [], 0⟩, k, q2, z, _⟩, ⟨.undef hxv.1, trivial, hg.le (s2 := 9 + 8 * (q2 - p)) (by omega) (by omega), kok, ⟨by show p ≤ q2; omega, hrx⟩, fun w hw => ⟨hw.1, f0 hg.tk rfl, (hA w hw.1).2⟩⟩, rfl, ⟨wkE_refl _, wkE_refl _, wkH_nil _⟩⟩
 ·have h5 := h4 (by decide)
  refine wXR ?_
  refine callG (pick_c g ok q z 2 ⟨by decide, by decide⟩ h3 A hA1) [0, 1] rfl ⟨rfl, rfl, trivial⟩ rfl fun i hi3 => ?_
  obtain ⟨y, q2⟩ := i
  obtain ⟨y1, y2, y3, y4⟩ := hi3
  have y1 : y < 2 := y1
  have y2 : q ≤ q2 := y2
  have y3 : q2 ≤ g.l.length := y3
  have y4 : y ≠ 0 → q < q2 := y4
  refine wXR ?_
  refine brd_eq (fun h6 => ?_) (fun h6 => ?_)
  ·refine wXR ?_
   refine call1 (node_c _ _ _ _ _ _) ?_
   refine wXR ?_
   have hg : Gn k.l ⟨39, [], 0, none, [], 0⟩ k.l 1 1 := Gn.leaf (d := 0) rfl (Nat.zero_le _)
   refine ⟨_, sealG _ _ _ _ _, ⟨⟨39, [], 0, none, [], 0⟩, k, q2, z, _⟩, ⟨.bare (by decide), trivial, hg.le (s2 := 9 + 8 * (q2 - p)) (by omega) (by omega), kok, ⟨by show p ≤ q2; omega, y3⟩, fun w hw => ⟨hw.1, f0 hg.tk rfl, (hA w hw.1).2⟩⟩, rfl, ⟨wkE_refl _, wkE_refl _, wkH_nil _⟩⟩
  ·refine wXR ?_
   refine call1 (node_c _ _ _ _ _ _) ?_
   refine wXR ?_
   have hg : Gn k.l ⟨20, [], 0, none, [], 0⟩ k.l 1 1 := Gn.leaf (d := 0) rfl (Nat.zero_le _)
   refine ⟨_, sealG _ _ _ _ _, ⟨⟨20, [], 0, none, [], 0⟩, k, q2, z, _⟩, ⟨.zsup, trivial, hg.le (s2 := 9 + 8 * (q2 - p)) (by omega) (by omega), kok, ⟨by show p ≤ q2; omega, y3⟩, fun w hw => ⟨hw.1, f0 hg.tk rfl, (hA w hw.1).2⟩⟩, rfl, ⟨wkE_refl _, wkE_refl _, wkH_nil _⟩⟩
def fcaL : NL := [[102, 111, 111], [112], [102, 63], [120]]
theorem fcaL_v : ∀ x ∈ fcaL, naB x = true ∧ x.length ≤ 2000 := by decide +kernel
set_option maxHeartbeats 4000000 in
theorem gexpr_0 : ExprC 0 := by
 intro g ok k kok p z hp A hA
 refine ownT hm Tryz.func17 (by kernel_rfl) rfl rfl (fun _ _ => okHB_eq rfl) (fun _ _ => Nat.le_of_ble_eq_true rfl) ?_
 have hlen := ok.len
 ((conv => whnf); (repeat ((first | refine BoxN.own ?_ | refine RwN.own ?_ | refine VrN.keep ?_ | refine DrawN.calm (by decide +kernel) ?_ | refine Nd.mk (by decide +kernel) ?_ | refine Nd.mk (by omega) ?_ | (refine Nd.mk ?_ ?_; focus ((repeat' (first | exact trivial | exact wkE_refl _ | refine And.intro ?_ ?_)); done)) | refine RdN.intro _ rfl (by rfl) ?_); (conv => whnf))))
 refine LdN.one (a := some ⟨g.gb, 0, none⟩) (q := 2) (.int .i64 z) rfl (fun w hw => hw.2.1) rfl ?_
 ((conv => whnf); (repeat ((first | refine BoxN.own ?_ | refine RwN.own ?_ | refine VrN.keep ?_ | refine DrawN.calm (by decide +kernel) ?_ | refine Nd.mk (by decide +kernel) ?_ | refine Nd.mk (by omega) ?_ | (refine Nd.mk ?_ ?_; focus ((repeat' (first | exact trivial | exact wkE_refl _ | refine And.intro ?_ ?_)); done)) | refine RdN.intro _ rfl (by rfl) ?_); (conv => whnf))))
 obtain ⟨z1, hz1⟩ : ∃ z1, z1 = IntKind.i64.wrap (z + 1) := ⟨_, rfl⟩
 refine EffW.appTo (i := 1) (q := 2) (ys := [_]) (grC g p z1) 3 rfl rfl rfl rfl rfl rfl rfl (Nat.le_of_ble_eq_true rfl) (by rw [hz1]; rfl) rfl ?_
 ((conv => whnf); (repeat ((first | refine BoxN.own ?_ | refine RwN.own ?_ | refine VrN.keep ?_ | refine DrawN.calm (by decide +kernel) ?_ | refine Nd.mk (by decide +kernel) ?_ | refine Nd.mk (by omega) ?_ | (refine Nd.mk ?_ ?_; focus ((repeat' (first | exact trivial | exact wkE_refl _ | refine And.intro ?_ ?_)); done)) | refine RdN.intro _ rfl (by rfl) ?_); (conv => whnf))))
 refine wX ?_
 refine callG (gleaf_c g ok k kok p z1 hp A hA) [0, 1] rfl ⟨rfl, rfl, trivial⟩ rfl fun j hj => ?_
 obtain ⟨t, q2⟩ := j
 have hle2 : p ≤ q2 ∧ q2 ≤ g.l.length := hj.le
 refine wX ?_
 refine ⟨_, sealG _ _ _ _ _, ⟨t, k, q2, z1, _⟩, ⟨hj.v, trivial, Gn.le (s := 1) (d := 1) hj.gn (by show 1 ≤ 1 + 8 * (q2 - p); omega) (by omega), kok, hle2, fun w hw => ⟨hw.1, f0 hj.gn.tk hj.no, (hA w hw.1).2⟩⟩, rfl, ⟨wkE_refl _, wkE_refl _, wkH_nil _⟩⟩
set_option maxHeartbeats 4000000 in
theorem gexpr_1 (D : Nat) (hD : D ≤ 40) (ih : ExprC D) (hs : SomeC (D + 1)) (hq : SeqC (D + 1)) (hb : BodyC (D + 1)) (ha : ArgsC (D + 1))
  (hc : NodeKC 35 .ex isAny (D + 1) 9 (4 * (D + 1) + 3)) (hm' : NodeKC 38 .ex isAny (D + 1) 9 (4 * (D + 1) + 3)) (hbe : NodeKC 39 .ex isAny (D + 1) 9 (4 * (D + 1) + 3)) (hmo : NodeKC 41 .ex isAny (D + 1) 9 (4 * (D + 1) + 3)) : ExprC (D + 1) := by
 intro g ok k kok p z hp A hA
 refine ownT hm Tryz.func17 (by kernel_rfl) rfl rfl (fun _ _ => okHB_eq rfl) (fun _ _ => Nat.le_of_ble_eq_true rfl) ?_
 have hlen := ok.len
 ((conv => whnf); (repeat ((first | refine BoxN.own ?_ | refine RwN.own ?_ | refine VrN.keep ?_ | refine DrawN.calm (by decide +kernel) ?_ | refine Nd.mk (by decide +kernel) ?_ | refine Nd.mk (by omega) ?_ | (refine Nd.mk ?_ ?_; focus ((repeat' (first | exact trivial | exact wkE_refl _ | refine And.intro ?_ ?_)); done)) | refine RdN.intro _ rfl (by rfl) ?_); (conv => whnf))))
 refine LdN.one (a := some ⟨g.gb, 0, none⟩) (q := 2) (.int .i64 z) rfl (fun w hw => hw.2.1) rfl ?_
 ((conv => whnf); (repeat ((first | refine BoxN.own ?_ | refine RwN.own ?_ | refine VrN.keep ?_ | refine DrawN.calm (by decide +kernel) ?_ | refine Nd.mk (by decide +kernel) ?_ | refine Nd.mk (by omega) ?_ | (refine Nd.mk ?_ ?_; focus ((repeat' (first | exact trivial | exact wkE_refl _ | refine And.intro ?_ ?_)); done)) | refine RdN.intro _ rfl (by rfl) ?_); (conv => whnf))))
 obtain ⟨z1, hz1⟩ : ∃ z1, z1 = IntKind.i64.wrap (z + 1) := ⟨_, rfl⟩
 refine EffW.appTo (i := 1) (q := 2) (ys := [_]) (grC g p z1) 3 rfl rfl rfl rfl rfl rfl rfl (Nat.le_of_ble_eq_true rfl) (by rw [hz1]; rfl) rfl ?_
 ((conv => whnf); (repeat ((first | refine BoxN.own ?_ | refine RwN.own ?_ | refine VrN.keep ?_ | refine DrawN.calm (by decide +kernel) ?_ | refine Nd.mk (by decide +kernel) ?_ | refine Nd.mk (by omega) ?_ | (refine Nd.mk ?_ ?_; focus ((repeat' (first | exact trivial | exact wkE_refl _ | refine And.intro ?_ ?_)); done)) | refine RdN.intro _ rfl (by rfl) ?_); (conv => whnf))))
 refine LdN.one (a := some ⟨g.gb, 0, none⟩) (q := 1) (.int .i64 (p : Int)) rfl (fun w hw => hw.2.1) rfl ?_
 refine wX ?_
 refine LdN.one (a := some ⟨g.gb, 0, none⟩) (q := 0) (.slice g.na g.l.length g.nc) rfl (fun w hw => hw.2.1) rfl ?_
 refine wX ?_
 refine brd_dec (fun h0 => ?_) (fun h0 => ?_)
 ·refine wX ?_
  refine callG (gleaf_c g ok k kok p z1 hp A hA) [0, 1] rfl ⟨rfl, rfl, trivial⟩ rfl fun j hj => ?_
  obtain ⟨t, q2⟩ := j
  have hle2 : p ≤ q2 ∧ q2 ≤ g.l.length := hj.le
  refine wX ?_
  refine ⟨_, sealG _ _ _ _ _, ⟨t, k, q2, z1, _⟩, ⟨hj.v, trivial, Gn.le (s := 1) (d := 1) hj.gn (by show 1 ≤ 1 + 8 * (q2 - p); omega) (by omega), kok, hle2, fun w hw => ⟨hw.1, f0 hj.gn.tk hj.no, (hA w hw.1).2⟩⟩, rfl, ⟨wkE_refl _, wkE_refl _, wkH_nil _⟩⟩
 refine wX ?_
 refine LdN.one (a := some ⟨g.gb, 0, none⟩) (q := 2) (.int .i64 z1) rfl (fun w hw => hw.2.1) rfl ?_
 refine wX ?_
 refine brd_dec (fun _ => ?_) (fun _ => ?_)
 ·refine wX ?_
  refine callG (gleaf_c g ok k kok p z1 hp A hA) [0, 1] rfl ⟨rfl, rfl, trivial⟩ rfl fun j hj => ?_
  obtain ⟨t, q2⟩ := j
  have hle2 : p ≤ q2 ∧ q2 ≤ g.l.length := hj.le
  refine wX ?_
  refine ⟨_, sealG _ _ _ _ _, ⟨t, k, q2, z1, _⟩, ⟨hj.v, trivial, Gn.le (s := 1) (d := 1) hj.gn (by show 1 ≤ 1 + 8 * (q2 - p); omega) (by omega), kok, hle2, fun w hw => ⟨hw.1, f0 hj.gn.tk hj.no, (hA w hw.1).2⟩⟩, rfl, ⟨wkE_refl _, wkE_refl _, wkH_nil _⟩⟩
 have hpl : p < g.l.length := by omega
 refine wX ?_
 refine callG (pickx_c g ok p z1 20 ⟨by decide, by decide⟩ hpl A (fun w hw => (hA w hw).1)) [0, 1] rfl ⟨rfl, rfl, trivial⟩ rfl fun i hi => ?_
 obtain ⟨x, q⟩ := i
 obtain ⟨h1, h5, h3⟩ := hi
 have h1 : x < 20 := h1
 have h5 : p < q := h5
 have h3 : q ≤ g.l.length := h3
 by_cases h12 : 12 ≤ x
 ·refine wX ?_
  refine brd_eq (fun h => absurd (show (x : Int) = 0 from h) (by omega)) (fun _ => ?_)
  refine wX ?_
  refine brd_eq (fun h => absurd (show (x : Int) = 1 from h) (by omega)) (fun _ => ?_)
  refine wX ?_
  refine brd_eq (fun h => absurd (show (x : Int) = 2 from h) (by omega)) (fun _ => ?_)
  refine wX ?_
  refine brd_eq (fun h => absurd (show (x : Int) = 3 from h) (by omega)) (fun _ => ?_)
  refine wX ?_
  refine brd_eq (fun h => absurd (show (x : Int) = 4 from h) (by omega)) (fun _ => ?_)
  refine wX ?_
  refine brd_eq (fun h => absurd (show (x : Int) = 5 from h) (by omega)) (fun _ => ?_)
  refine wX ?_
  refine brd_eq (fun h => absurd (show (x : Int) = 6 from h) (by omega)) (fun _ => ?_)
  refine wX ?_
  refine brd_eq (fun h => absurd (show (x : Int) = 7 from h) (by omega)) (fun _ => ?_)
  refine wX ?_
  refine brd_eq (fun h => absurd (show (x : Int) = 8 from h) (by omega)) (fun _ => ?_)
  refine wX ?_
  refine brd_eq (fun h => absurd (show (x : Int) = 9 from h) (by omega)) (fun _ => ?_)
  refine wX ?_
  refine brd_eq (fun h => absurd (show (x : Int) = 10 from h) (by omega)) (fun _ => ?_)
  refine wX ?_
  refine brd_eq (fun h => absurd (show (x : Int) = 11 from h) (by omega)) (fun _ => ?_)
  refine wX ?_
  refine wX ?_
  refine callG (hmo g ok k kok q z1 h3 A hA) [0, 1] rfl ⟨rfl, rfl, trivial⟩ rfl fun j hj => ?_
  obtain ⟨t, k2, q2, z2, F2⟩ := j
  have hle2 : q ≤ q2 ∧ q2 ≤ g.l.length := hj.le
  refine wX ?_
  refine ⟨_, turn_refl _, ⟨t, k2, q2, z2, F2⟩, ⟨hj.v, trivial, Gn.le (s2 := 1 + 8 * (q2 - p)) (d2 := 4 * (D + 1) + 3) hj.gn (by first | (show 9 + 8 * (q2 - q) ≤ _; omega) | (show 1 + 8 * (q2 - q) ≤ _; omega)) (by omega), hj.kd, ⟨by show p ≤ q2; omega, hle2.2⟩, hj.f⟩, rfl, ⟨wkE_refl _, wkE_refl _, wkH_nil _⟩⟩
 rcases (by omega : x = 0 ∨ x = 1 ∨ x = 2 ∨ x = 3 ∨ x = 4 ∨ x = 5 ∨ x = 6 ∨ x = 7 ∨ x = 8 ∨ x = 9 ∨ x = 10 ∨ x = 11) with rfl | rfl | rfl | rfl | rfl | rfl | rfl | rfl | rfl | rfl | rfl | rfl
 ·-- a local gets an expr
  refine wXR ?_
  refine callG locals_c [] rfl trivial rfl fun rb _ => ?_
  refine wXR ?_
  refine SpecH.shut 3 rfl ?_
  refine callG (text_c g ok q z1 h3 A _ (fun w hw => (hA w hw).1) (some ⟨rb, 0, none⟩) locL _ ⟨by decide, by decide⟩ rfl (fun w hw => hw)) [0, 1, 3] rfl ⟨rfl, rfl, rfl, trivial⟩ rfl fun i hi2 => ?_
  obtain ⟨y, q2⟩ := i
  obtain ⟨hy, hy2, hy3⟩ := hi2
  have hy : y ∈ locL := hy
  have hy2 : q ≤ q2 := hy2
  have hy3 : q2 ≤ g.l.length := hy3
  have hyn := locL_nm y hy
  refine wXR ?_
  refine callG (declared_c g k kok y hyn q2 z1 A (fun w hw => (hA w hw).2)) [0, 1] rfl ⟨rfl, rfl, trivial⟩ rfl fun j hj => ?_
  obtain ⟨k2, F2⟩ := j
  obtain ⟨hk2, hka, hF2⟩ := hj
  have hka : k2.l = kadd k.l y := hka
  have hk2 : KdOk k2 := hk2
  have hF2 : ∀ w, F2 w → A w ∧ KnF k2 w := hF2
  refine wXR ?_
  refine callG (hs g ok 1 (by decide) k2 hk2 q2 z1 hy3 F2 (fun w hw => ⟨(hA w (hF2 w hw).1).1, (hF2 w hw).2⟩)) [0, 1] rfl ⟨rfl, rfl, trivial⟩ rfl fun j hj => ?_
  obtain ⟨l3, ob3, cap3, k3, q3, z3, F3⟩ := j
  obtain ⟨hj, hl3⟩ := hj
  have hl3 : l3.length = 1 := hl3
  obtain ⟨t, rfl⟩ := List.length_eq_one_iff.1 hl3
  have hle3 : q2 ≤ q3 ∧ q3 ≤ g.l.length := hj.le
  have hgs3 : Gs (kadd k.l y) [t] k3.l (1 + 8 * (q3 - q2)) (4 * (D + 1)) := by rw [← hka]; exact Gs.le (s := 1 + 8 * (q3 - q2)) (d := 4 * (D + 1) - 1) hj.gs (Nat.le_refl _) (by omega)
  have hf3 : ∀ w, F3 w → F2 w ∧ (∀ u ∈ [t], TreeF w u) ∧ KnF k3 w := hj.f
  have hrk : RowK (at0 ob3) cap3 [t] := rowK hj.nil hj.cap
  refine wXR ?_
  refine call1 (node_c _ _ _ _ _ _) ?_
  refine wXR ?_
  have hg : Gn k.l ⟨11, y, 0, at0 ob3, [t], cap3⟩ k3.l (1 + 8 * (q3 - q2) + 1) (4 * (D + 1) + 1) := Gn.set (.inl rfl) hyn hrk (by omega) hgs3
  refine ⟨_, sealG _ _ _ _ _, ⟨⟨11, y, 0, at0 ob3, [t], cap3⟩, k3, q3, z3, _⟩, ⟨.setl (nmL_lo y hyn) (hj.v t (List.mem_singleton.2 rfl)), trivial, hg.le (s2 := 1 + 8 * (q3 - p)) (by omega) (by omega), hj.kd, ⟨by show p ≤ q3; omega, hle3.2⟩, fun w hw => ?_⟩, rfl, ⟨wkE_refl _, wkE_refl _, wkH_nil _⟩⟩
  obtain ⟨f1, f2, f3⟩ := hf3 w hw.1
  exact ⟨(hF2 w f1).1, treeF hg.tk hw.2.2.1 rfl f2, f3⟩
 ·-- a local gets an expr
  refine wXR ?_
  refine callG locals_c [] rfl trivial rfl fun rb _ => ?_
  refine wXR ?_
  refine SpecH.shut 3 rfl ?_
  refine callG (text_c g ok q z1 h3 A _ (fun w hw => (hA w hw).1) (some ⟨rb, 0, none⟩) locL _ ⟨by decide, by decide⟩ rfl (fun w hw => hw)) [0, 1, 3] rfl ⟨rfl, rfl, rfl, trivial⟩ rfl fun i hi2 => ?_
  obtain ⟨y, q2⟩ := i
  obtain ⟨hy, hy2, hy3⟩ := hi2
  have hy : y ∈ locL := hy
  have hy2 : q ≤ q2 := hy2
  have hy3 : q2 ≤ g.l.length := hy3
  have hyn := locL_nm y hy
  refine wXR ?_
  refine callG (declared_c g k kok y hyn q2 z1 A (fun w hw => (hA w hw).2)) [0, 1] rfl ⟨rfl, rfl, trivial⟩ rfl fun j hj => ?_
  obtain ⟨k2, F2⟩ := j
  obtain ⟨hk2, hka, hF2⟩ := hj
  have hka : k2.l = kadd k.l y := hka
  have hk2 : KdOk k2 := hk2
  have hF2 : ∀ w, F2 w → A w ∧ KnF k2 w := hF2
  refine wXR ?_
  refine callG (hs g ok 1 (by decide) k2 hk2 q2 z1 hy3 F2 (fun w hw => ⟨(hA w (hF2 w hw).1).1, (hF2 w hw).2⟩)) [0, 1] rfl ⟨rfl, rfl, trivial⟩ rfl fun j hj => ?_
  obtain ⟨l3, ob3, cap3, k3, q3, z3, F3⟩ := j
  obtain ⟨hj, hl3⟩ := hj
  have hl3 : l3.length = 1 := hl3
  obtain ⟨t, rfl⟩ := List.length_eq_one_iff.1 hl3
  have hle3 : q2 ≤ q3 ∧ q3 ≤ g.l.length := hj.le
  have hgs3 : Gs (kadd k.l y) [t] k3.l (1 + 8 * (q3 - q2)) (4 * (D + 1)) := by rw [← hka]; exact Gs.le (s := 1 + 8 * (q3 - q2)) (d := 4 * (D + 1) - 1) hj.gs (Nat.le_refl _) (by omega)
  have hf3 : ∀ w, F3 w → F2 w ∧ (∀ u ∈ [t], TreeF w u) ∧ KnF k3 w := hj.f
  have hrk : RowK (at0 ob3) cap3 [t] := rowK hj.nil hj.cap
  refine wXR ?_
  refine call1 (node_c _ _ _ _ _ _) ?_
  refine wXR ?_
  have hg : Gn k.l ⟨11, y, 0, at0 ob3, [t], cap3⟩ k3.l (1 + 8 * (q3 - q2) + 1) (4 * (D + 1) + 1) := Gn.set (.inl rfl) hyn hrk (by omega) hgs3
  refine ⟨_, sealG _ _ _ _ _, ⟨⟨11, y, 0, at0 ob3, [t], cap3⟩, k3, q3, z3, _⟩, ⟨.setl (nmL_lo y hyn) (hj.v t (List.mem_singleton.2 rfl)), trivial, hg.le (s2 := 1 + 8 * (q3 - p)) (by omega) (by omega), hj.kd, ⟨by show p ≤ q3; omega, hle3.2⟩, fun w hw => ?_⟩, rfl, ⟨wkE_refl _, wkE_refl _, wkH_nil _⟩⟩
  obtain ⟨f1, f2, f3⟩ := hf3 w hw.1
  exact ⟨(hF2 w f1).1, treeF hg.tk hw.2.2.1 rfl f2, f3⟩
 ·-- what another function makes, handed on; hc: its contract
  refine wX ?_
  refine callG (hc g ok k kok q z1 h3 A hA) [0, 1] rfl ⟨rfl, rfl, trivial⟩ rfl fun j hj => ?_
  obtain ⟨t, k2, q2, z2, F2⟩ := j
  have hle2 : q ≤ q2 ∧ q2 ≤ g.l.length := hj.le
  refine wX ?_
  refine ⟨_, turn_refl _, ⟨t, k2, q2, z2, F2⟩, ⟨hj.v, trivial, Gn.le (s2 := 1 + 8 * (q2 - p)) (d2 := 4 * (D + 1) + 3) hj.gn (by first | (show 9 + 8 * (q2 - q) ≤ _; omega) | (show 1 + 8 * (q2 - q) ≤ _; omega)) (by omega), hj.kd, ⟨by show p ≤ q2; omega, hle2.2⟩, hj.f⟩, rfl, ⟨wkE_refl _, wkE_refl _, wkH_nil _⟩⟩
 ·-- what another function makes, handed on; hc: its contract
  refine wX ?_
  refine callG (hc g ok k kok q z1 h3 A hA) [0, 1] rfl ⟨rfl, rfl, trivial⟩ rfl fun j hj => ?_
  obtain ⟨t, k2, q2, z2, F2⟩ := j
  have hle2 : q ≤ q2 ∧ q2 ≤ g.l.length := hj.le
  refine wX ?_
  refine ⟨_, turn_refl _, ⟨t, k2, q2, z2, F2⟩, ⟨hj.v, trivial, Gn.le (s2 := 1 + 8 * (q2 - p)) (d2 := 4 * (D + 1) + 3) hj.gn (by first | (show 9 + 8 * (q2 - q) ≤ _; omega) | (show 1 + 8 * (q2 - q) ≤ _; omega)) (by omega), hj.kd, ⟨by show p ≤ q2; omega, hle2.2⟩, hj.f⟩, rfl, ⟨wkE_refl _, wkE_refl _, wkH_nil _⟩⟩
 ·-- what another function makes, handed on; hc: its contract
  refine wX ?_
  refine callG (hc g ok k kok q z1 h3 A hA) [0, 1] rfl ⟨rfl, rfl, trivial⟩ rfl fun j hj => ?_
  obtain ⟨t, k2, q2, z2, F2⟩ := j
  have hle2 : q ≤ q2 ∧ q2 ≤ g.l.length := hj.le
  refine wX ?_
  refine ⟨_, turn_refl _, ⟨t, k2, q2, z2, F2⟩, ⟨hj.v, trivial, Gn.le (s2 := 1 + 8 * (q2 - p)) (d2 := 4 * (D + 1) + 3) hj.gn (by first | (show 9 + 8 * (q2 - q) ≤ _; omega) | (show 1 + 8 * (q2 - q) ≤ _; omega)) (by omega), hj.kd, ⟨by show p ≤ q2; omega, hle2.2⟩, hj.f⟩, rfl, ⟨wkE_refl _, wkE_refl _, wkH_nil _⟩⟩
 ·refine wX ?_
  refine callG (ha g ok true k kok q z1 h3 A hA) [0, 1] rfl ⟨rfl, rfl, trivial⟩ rfl fun j hj => ?_
  obtain ⟨l2, b2, a2, cap2, k2, q4, z2, F2⟩ := j
  have hle2 : q ≤ q4 ∧ q4 ≤ g.l.length := hj.le
  have hgs2 : Gs k.l (l2 ++ b2) k2.l (8 * (q4 - q)) (4 * (D + 1) + 1) := hj.gs
  have hf2 : ∀ w, F2 w → A w ∧ LsF a2 (l2 ++ b2) w ∧ KnF k2 w := hj.f
  refine wXR ?_
  refine RwN.known (strsC fcaL) rfl fun rb => ?_
  refine wXR ?_
  refine SpecH.shut 3 rfl ?_
  refine callG (text_c g ok q4 z2 hle2.2 F2 _ (fun w hw => (hA w (hf2 w hw).1).1) (some ⟨rb, 0, none⟩) fcaL _ ⟨by decide, by decide⟩ rfl (fun w hw => hw)) [0, 1, 3] rfl ⟨rfl, rfl, rfl, trivial⟩ rfl fun i hi2 => ?_
  obtain ⟨y, q5⟩ := i
  obtain ⟨hy, hy2, hy3⟩ := hi2
  have hyv := fcaL_v y hy
  have hy2 : q4 ≤ q5 := hy2
  have hy3 : q5 ≤ g.l.length := hy3
  refine wXR ?_
  refine call1 (node_c _ _ _ _ _ _) ?_
  refine wXR ?_
  have hg : Gn k.l ⟨18, y, 0, a2, l2 ++ b2, cap2⟩ k2.l (8 * (q4 - q) + 1) (4 * (D + 1) + 2) := Gn.q rfl hj.row hyv.2 (by omega) hgs2
  refine ⟨_, sealG _ _ _ _ _, ⟨⟨18, y, 0, a2, l2 ++ b2, cap2⟩, k2, q5, z2, _⟩, ⟨V.fcall (l := l2) (b := b2) hyv.1 hj.vl hj.vb hj.b1, trivial, hg.le (s2 := 1 + 8 * (q5 - p)) (by omega) (by omega), hj.kd, ⟨by show p ≤ q5; omega, hy3⟩, fun w hw => ?_⟩, rfl, ⟨wkE_refl _, wkE_refl _, wkH_nil _⟩⟩
  obtain ⟨f1, f2, f3⟩ := hf2 w hw.1
  exact ⟨f1, treeF hg.tk f2.1 rfl f2.2, f3⟩
 ·-- what another function makes, handed on; hq: its contract
  refine wX ?_
  refine callG (hq g ok k kok q z1 h3 A hA) [0, 1] rfl ⟨rfl, rfl, trivial⟩ rfl fun j hj => ?_
  obtain ⟨t, k2, q2, z2, F2⟩ := j
  have hle2 : q ≤ q2 ∧ q2 ≤ g.l.length := hj.le
  refine wX ?_
  refine ⟨_, turn_refl _, ⟨t, k2, q2, z2, F2⟩, ⟨hj.v, trivial, Gn.le (s2 := 1 + 8 * (q2 - p)) (d2 := 4 * (D + 1) + 3) hj.gn (by first | (show 9 + 8 * (q2 - q) ≤ _; omega) | (show 1 + 8 * (q2 - q) ≤ _; omega)) (by omega), hj.kd, ⟨by show p ≤ q2; omega, hle2.2⟩, hj.f⟩, rfl, ⟨wkE_refl _, wkE_refl _, wkH_nil _⟩⟩
 ·-- an expr; the same
  refine wX ?_
  rw [low D (by omega)]
  refine callG (ih g ok k (by assumption) q z1 h3 A hA) [0, 1] rfl ⟨rfl, rfl, trivial⟩ rfl fun j6 hj6 => ?_
  obtain ⟨s6, k6, q6, z6, F6⟩ := j6
  have hls6 : q ≤ q6 ∧ q6 ≤ g.l.length := hj6.le
  have hgq6 : Gn k.l s6 k6.l (1 + 8 * (q6 - q)) (4 * (D + 1)) := Gn.le (s := 1 + 8 * (q6 - q)) (d := 4 * D + 3) hj6.gn (Nat.le_refl _) (by omega)
  have hks6 : KdOk k6 := hj6.kd
  have hvs6 : V .ex s6 := hj6.v
  have hfs6 : ∀ w, F6 w → A w ∧ TreeF w s6 ∧ KnF k6 w := hj6.f
  refine wX ?_
  refine callG (hq g ok k6 (by assumption) q6 z6 hls6.2 F6 (fun w hw => ⟨(hA w (hfs6 w hw).1).1, (hfs6 w hw).2.2⟩)) [0, 1] rfl ⟨rfl, rfl, trivial⟩ rfl fun j7 hj7 => ?_
  obtain ⟨s7, k7, q7, z7, F7⟩ := j7
  have hls7 : q6 ≤ q7 ∧ q7 ≤ g.l.length := hj7.le
  have hgq7 : Gn k6.l s7 k7.l (1 + 8 * (q7 - q6)) (4 * (D + 1)) := hj7.gn
  have hks7 : KdOk k7 := hj7.kd
  have hvs7 : V .ex s7 := hj7.v
  have hos7 : s7.op = 26 := hj7.q
  have hfs7 : ∀ w, F7 w → F6 w ∧ TreeF w s7 ∧ KnF k7 w := hj7.f
  refine wX ?_
  refine callG (hq g ok k7 (by assumption) q7 z7 hls7.2 F7 (fun w hw => ⟨(hA w (hfs6 w (hfs7 w hw).1).1).1, (hfs7 w hw).2.2⟩)) [0, 1] rfl ⟨rfl, rfl, trivial⟩ rfl fun j8 hj8 => ?_
  obtain ⟨s8, k8, q8, z8, F8⟩ := j8
  have hls8 : q7 ≤ q8 ∧ q8 ≤ g.l.length := hj8.le
  have hgq8 : Gn k7.l s8 k8.l (1 + 8 * (q8 - q7)) (4 * (D + 1)) := hj8.gn
  have hks8 : KdOk k8 := hj8.kd
  have hvs8 : V .ex s8 := hj8.v
  have hos8 : s8.op = 26 := hj8.q
  have hfs8 : ∀ w, F8 w → F7 w ∧ TreeF w s8 ∧ KnF k8 w := hj8.f
  refine wXR ?_
  refine RwN.known (nodesC [s6, s7, s8]) rfl fun nb => ?_
  refine wXR ?_
  refine call1 (node_c _ _ _ _ _ _) ?_
  refine wXR ?_
  have hg : Gn k.l ⟨27, [], 0, some ⟨nb, 0, none⟩, [s6, s7, s8], 3⟩ k8.l (1 + 8 * (q6 - q) + (1 + 8 * (q7 - q6) + (1 + 8 * (q8 - q7))) + 1) (4 * (D + 1) + 1) := Gn.q rfl (.some (Nat.le_refl 3)) (Nat.zero_le _) (by omega) (Gs.cons hgq6 (Gs.cons hgq7 hgq8.s))
  refine ⟨_, sealG _ _ _ _ _, ⟨⟨27, [], 0, some ⟨nb, 0, none⟩, [s6, s7, s8], 3⟩, k8, q8, z8, _⟩, ⟨.iff hvs6 hvs7 hos7 hvs8 hos8, trivial, hg.le (s2 := 1 + 8 * (q8 - p)) (by omega) (by omega), hks8, ⟨by show p ≤ q8; omega, hls8.2⟩, fun w hw => ?_⟩, rfl, ⟨wkE_refl _, wkE_refl _, wkH_nil _⟩⟩
  obtain ⟨f1, f2, f3⟩ := hfs8 w hw.1
  obtain ⟨f4, f5, f6⟩ := hfs7 w f1
  obtain ⟨f7, f8, f9⟩ := hfs6 w f4
  exact ⟨f7, treeF hg.tk hw.2.1 rfl (allC f8 (two_mem f5 f2)), f3⟩
 ·-- an expr; the same
  refine wX ?_
  rw [low D (by omega)]
  refine callG (ih g ok k (by assumption) q z1 h3 A hA) [0, 1] rfl ⟨rfl, rfl, trivial⟩ rfl fun j6 hj6 => ?_
  obtain ⟨s6, k6, q6, z6, F6⟩ := j6
  have hls6 : q ≤ q6 ∧ q6 ≤ g.l.length := hj6.le
  have hgq6 : Gn k.l s6 k6.l (1 + 8 * (q6 - q)) (4 * (D + 1)) := Gn.le (s := 1 + 8 * (q6 - q)) (d := 4 * D + 3) hj6.gn (Nat.le_refl _) (by omega)
  have hks6 : KdOk k6 := hj6.kd
  have hvs6 : V .ex s6 := hj6.v
  have hfs6 : ∀ w, F6 w → A w ∧ TreeF w s6 ∧ KnF k6 w := hj6.f
  refine wX ?_
  refine callG (hq g ok k6 (by assumption) q6 z6 hls6.2 F6 (fun w hw => ⟨(hA w (hfs6 w hw).1).1, (hfs6 w hw).2.2⟩)) [0, 1] rfl ⟨rfl, rfl, trivial⟩ rfl fun j7 hj7 => ?_
  obtain ⟨s7, k7, q7, z7, F7⟩ := j7
  have hls7 : q6 ≤ q7 ∧ q7 ≤ g.l.length := hj7.le
  have hgq7 : Gn k6.l s7 k7.l (1 + 8 * (q7 - q6)) (4 * (D + 1)) := hj7.gn
  have hks7 : KdOk k7 := hj7.kd
  have hvs7 : V .ex s7 := hj7.v
  have hos7 : s7.op = 26 := hj7.q
  have hfs7 : ∀ w, F7 w → F6 w ∧ TreeF w s7 ∧ KnF k7 w := hj7.f
  refine wXR ?_
  refine RwN.known (nodesC [s6, s7]) rfl fun nb => ?_
  refine wXR ?_
  refine call1 (node_c _ _ _ _ _ _) ?_
  refine wXR ?_
  have hg : Gn k.l ⟨28, [], 0, some ⟨nb, 0, none⟩, [s6, s7], 2⟩ k7.l (1 + 8 * (q6 - q) + (1 + 8 * (q7 - q6)) + 1) (4 * (D + 1) + 1) := Gn.q rfl (.some (Nat.le_refl 2)) (Nat.zero_le _) (by omega) (Gs.cons hgq6 hgq7.s)
  refine ⟨_, sealG _ _ _ _ _, ⟨⟨28, [], 0, some ⟨nb, 0, none⟩, [s6, s7], 2⟩, k7, q7, z7, _⟩, ⟨.whil (.inl rfl) hvs6 hvs7 hos7, trivial, hg.le (s2 := 1 + 8 * (q7 - p)) (by omega) (by omega), hks7, ⟨by show p ≤ q7; omega, hls7.2⟩, fun w hw => ?_⟩, rfl, ⟨wkE_refl _, wkE_refl _, wkH_nil _⟩⟩
  obtain ⟨f4, f5, f6⟩ := hfs7 w hw.1
  obtain ⟨f7, f8, f9⟩ := hfs6 w f4
  exact ⟨f7, treeF hg.tk hw.2.1 rfl (two_mem f8 f5), f6⟩
 ·-- what another function makes, handed on; hm': its contract
  refine wX ?_
  refine callG (hm' g ok k kok q z1 h3 A hA) [0, 1] rfl ⟨rfl, rfl, trivial⟩ rfl fun j hj => ?_
  obtain ⟨t, k2, q2, z2, F2⟩ := j
  have hle2 : q ≤ q2 ∧ q2 ≤ g.l.length := hj.le
  refine wX ?_
  refine ⟨_, turn_refl _, ⟨t, k2, q2, z2, F2⟩, ⟨hj.v, trivial, Gn.le (s2 := 1 + 8 * (q2 - p)) (d2 := 4 * (D + 1) + 3) hj.gn (by first | (show 9 + 8 * (q2 - q) ≤ _; omega) | (show 1 + 8 * (q2 - q) ≤ _; omega)) (by omega), hj.kd, ⟨by show p ≤ q2; omega, hle2.2⟩, hj.f⟩, rfl, ⟨wkE_refl _, wkE_refl _, wkH_nil _⟩⟩
 ·-- what another function makes, handed on; hbe: its contract
  refine wX ?_
  refine callG (hbe g ok k kok q z1 h3 A hA) [0, 1] rfl ⟨rfl, rfl, trivial⟩ rfl fun j hj => ?_
  obtain ⟨t, k2, q2, z2, F2⟩ := j
  have hle2 : q ≤ q2 ∧ q2 ≤ g.l.length := hj.le
  refine wX ?_
  refine ⟨_, turn_refl _, ⟨t, k2, q2, z2, F2⟩, ⟨hj.v, trivial, Gn.le (s2 := 1 + 8 * (q2 - p)) (d2 := 4 * (D + 1) + 3) hj.gn (by first | (show 9 + 8 * (q2 - q) ≤ _; omega) | (show 1 + 8 * (q2 - q) ≤ _; omega)) (by omega), hj.kd, ⟨by show p ≤ q2; omega, hle2.2⟩, hj.f⟩, rfl, ⟨wkE_refl _, wkE_refl _, wkH_nil _⟩⟩
 ·refine wX ?_
  refine callG (hb g ok k kok q z1 h3 A hA) [0, 1] rfl ⟨rfl, rfl, trivial⟩ rfl fun j hj => ?_
  obtain ⟨ps, s, ba, bc, bk, q4, z2, F2⟩ := j
  have hle2 : q ≤ q4 ∧ q4 ≤ g.l.length := hj.le
  have hgs : Gs k.l (ps ++ [s]) bk (1 + 8 * (q4 - q)) (4 * (D + 1)) := hj.gs
  refine wXR ?_
  refine call1 (node_c _ _ _ _ _ _) ?_
  refine wXR ?_
  have hg : Gn k.l ⟨25, [], 0, ba, ps ++ [s], bc⟩ k.l (2 + 8 * (q4 - q)) (4 * (D + 1) + 1) := (Gn.blk (.inr rfl) hj.row (by omega) hgs).le (by omega) (Nat.le_refl _)
  refine ⟨_, sealG _ _ _ _ _, ⟨⟨25, [], 0, ba, ps ++ [s], bc⟩, k, q4, z2, _⟩, ⟨.lam hj.vp hj.pk hj.vs hj.so, trivial, hg.le (s2 := 1 + 8 * (q4 - p)) (by omega) (by omega), kok, ⟨by show p ≤ q4; omega, hle2.2⟩, fun w hw => ?_⟩, rfl, ⟨wkE_refl _, wkE_refl _, wkH_nil _⟩⟩
  obtain ⟨f1, f2⟩ := hj.f w hw.1
  exact ⟨f1, treeF hg.tk f2.1 rfl f2.2, (hA w f1).2⟩
theorem gexpr_c : ∀ D, D ≤ 40 → ExprC D
 | 0, _ => gexpr_0
 | D + 1, h => by
  have hall : ∀ E, E ≤ D → ExprC E := fun E hE => gexpr_c E (by omega)
  have ih := hall D (Nat.le_refl _)
  have hs := gsome_c D (by omega) ih
  have hq := gseq_c D (by omega) ih
  have hb := gbody_c (D + 1) (gparams_c D (by omega) hall) hq
  have ha := gargs_c D (by omega) ih hb
  exact gexpr_1 D (by omega) ih hs hq hb ha (gcall_c D (by omega) hs ha) (gmatch_c D (by omega) ih hs hq (gpat_c (D + 1) (by omega))) (gbegin_c D (by omega) hs hq) (gmore_c D (by omega) ih hs hq hb ha)
end Go.Proofs.YtpikpjlhdkkigaaGreatDoor
namespace Go.AX
theorem map_add0 (a : Option Addr) : a.map (·.add 0) = a := by
 cases a with
 | none => rfl
 | some b => simp [Addr.add]
theorem ReadW.slc_ha {P : Program} {o : Oper} {s : List AV} {H : List Ent} {K : AV → Prop} {t : TypeId} {x z : Operand} {a : Option Addr} {n cap : Nat} {k : IntKind} {j : Int} (ho : o.op = .slice t x none (some z) none) (hu : slcB P t = true)
  (hx : opv s x = .c (.v (.slice a n cap))) (hz : opv s z = .c (.v (.int k j))) (hj : 0 ≤ j ∧ j ≤ (cap : Int)) (h : K (.c (.v (.slice a j.toNat cap)))) : ReadW P o s H K := by
 obtain ⟨e, inf, hu, hi⟩ := slcB_spec hu
 refine ReadW.val _ (fun cs b => by rw [ho]; simp) (by rw [ho]; simp [Op.operands, allPlain, hx, hz]) (fun w _ => ?_) h
 have e1 := plainEv_v hx
 have e2 := plainEv_v hz
 have : (Instr.sliceAt t (.slice a n cap) none (some (.int k j)) none).run P w = .ok (.slice a j.toNat cap) w := by
  have ha := map_add0 a
  simp [Instr.sliceAt, Instr.slice, run_underlying hu, Instr.sliceBounds, Instr.sliceBound, asIntOf, hj, sizeOf, typeInfo, hi, ha]
 refine run_op_slice ho ?_
 rw [e1]
 simpa [e2] using this
theorem SlAt.cut {a : Option Addr} {n m : Nat} {xs ys : List Value} {w : World} (h : SlAt a n (xs ++ ys) w) (hm : xs.length = m) (hmn : m ≤ n) : SlAt a m xs w := by
 refine ⟨hm, fun hp => h.2.1 (by omega), fun j hj => ?_⟩
 have := h.2.2 j (by omega)
 rw [List.getElem?_append_left (by omega)] at this
 exact this
end Go.AX
namespace Go.Proofs.YtpikpjlhdkkigaaGreatDoor
open Go.AX Go.RowKit Go.Tree Go.Scan
set_option maxRecDepth 20000
def isTop (t : TP) : Prop := (t.op ≠ 45 → V .ex t) ∧ (t.op = 45 → V .use t)
def allTop (l : List TP) : Prop := ∀ t ∈ l, isTop t
theorem allTop.snoc {l : List TP} {t : TP} (ht : isTop t) (h : allTop l) : allTop (l ++ [t]) := allV h (allC ht allN)
structure Grown1 (t : TP) : Prop where
 v : V .top t
 kn : ∃ k, Kn [] t k
 sz : t.sz ≤ 1700
 dp : t.dp ≤ 30
 hn : ∀ x ∈ hn t, x ∈ nmL
 tk : TreeK t
def GrownR (v : Value) (G : World → Prop) : Prop := ∃ t, v = nodeV t ∧ Grown1 t ∧ ∀ w, G w → TreeF w t
theorem sealT (F0 : World → Prop) (g : GD) (p : Nat) (z : Int) {T U V : TypeId} {cs : List CV} {sz n cap sz2 n2 cap2 : Nat} {xs ys : List Value} {a b : Option Addr} (R : List Ent) : TurnS (.fact F0 :: .blk T cs :: grE g p z :: .app U sz2 ys b n2 cap2 :: .app V sz xs a n cap :: R) (.fact (fun w => F0 w ∧ Facts R w) :: .blk T cs :: grE g p z :: .app U sz2 ys b n2 cap2 :: .app V sz xs a n cap :: R.map fun _ => .dead) :=
 turnS ⟨.inr (.inr ⟨_, rfl, fun _ hw => ⟨hw.1, facts_rest R _ rfl hw.2⟩⟩), .inr (.inl rfl), .inr (.inl rfl), .inr (.inl rfl), .inr (.inl rfl), sealed_map _ R⟩
set_option maxHeartbeats 4000000 in
theorem Grown_c (a : Option Addr) (l0 : List Int) (cap : Nat) (hcl : l0.length ≤ cap) (hna : a = none → l0 = []) : SpecF Tryz.prog 6 [.slice a l0.length cap] (fun w => SlAt a l0.length (intG l0) w) GrownR := by
 refine specF hm Tryz.func6 (by kernel_rfl) rfl rfl ?_
 refine wXB ?_
 refine BoxN.own ?_
 refine wXB ?_
 refine brd_dec (fun h => ?_) (fun h => ?_)
 ·refine wXB ?_
  refine ReadW.slc_ha (a := a) (j := 200) rfl (by kernel_rfl) rfl rfl ⟨by decide, by omega⟩ ?_
  refine wXB ?_
  have hn : (l0.take 200).length = 200 := by rw [List.length_take]; omega
  have hlen : 200 ≤ 200 := Nat.le_refl _
  have hnil : a = none → l0.take 200 = [] := fun h => by rw [hna h]; rfl
  have hcut : ∀ w, SlAt a l0.length (intG l0) w → SlAt a 200 (intG (l0.take 200)) w := fun w hw => by
   have e : intG (l0.take 200) ++ intG (l0.drop 200) = intG l0 := by unfold intG; rw [← List.map_append, List.take_append_drop]
   rw [← e] at hw
   exact SlAt.cut hw (by unfold intG; rw [List.length_map]; exact hn) (by omega)
  refine BoxN.known [.slice none 0 0, .int .i64 0, .int .i64 0] rfl fun gb => ?_
  obtain ⟨g, hgd⟩ : ∃ g : GD, g = ⟨gb, a, cap, (l0.take 200)⟩ := ⟨_, rfl⟩
  have hgb : g.gb = gb := by rw [hgd]
  have hgl : g.l = (l0.take 200) := by rw [hgd]
  have hgn : g.l.length = 200 := by rw [hgl]; try exact hn
  have ok : GOk g := ⟨by rw [hgn]; exact hlen, fun h => by rw [hgl]; rw [hgd] at h; exact hnil h⟩
  have hA : ∀ w, SlAt a l0.length (intG l0) w → NumF g w := fun w hw => by
   show SlAt g.na g.l.length (intG g.l) w
   rw [hgn, hgl, hgd]
   exact (hcut) w hw
  obtain rfl := hgb
  refine wXB ?_
  refine EffW.appTo (i := 2) (q := 0) (ys := [_, _, _]) (grC g 0 0) 3 rfl rfl rfl rfl rfl rfl rfl (Nat.le_of_ble_eq_true rfl) (by rw [grC, hgn]; try (rw [hgd]); try rfl) rfl ?_
  refine wXB ?_
  refine call1 (node_c _ _ _ _ _ _) ?_
  refine wXB ?_
  refine BoxN.known (nodeC ⟨0, [], 0, none, [], 0⟩) rfl fun nb => ?_
  refine wXB ?_
  refine EffW.appTo (i := 3) (q := 0) (ys := [_, _, _, _]) (nodeC ⟨26, [], 0, none, [], 0⟩) 4 rfl rfl rfl rfl rfl rfl rfl (Nat.le_of_ble_eq_true rfl) rfl rfl ?_
  refine wX ?_
  refine LoopN.introS SmI (fun i => GrInv allTop g (fun w => SlAt a l0.length (intG l0) w) k0 0 23 (fun _ q => 8 * q) i ∧ i.l.length ≤ 4)
   (fun ⟨l, _, _, k', _, _, _⟩ => mkS Tryz.f6.ntmps 0 [(0, .c (.v (.slice a 200 cap))), (2, .c (.lp 1 0)), (3, .c (.v (gP g))), (4, .c (.v (.pointer (some ⟨nb, 0, none⟩)))), (5, .c (.v (knV k'))), (6, .c (.v (.int .i64 (l.length : Int))))])
   (fun ⟨l, ob, cap', _, q, z', F⟩ => [.fact F, .blk ndT [.v (.int .i64 0), .v (.string (bs [])), .v (.int .i64 0), .v (.slice none 0 0)], grE g q z', .app ndT 4 (nodeC ⟨26, [], 0, at0 ob, l, cap'⟩) (some ⟨nb, 0, none⟩) 1 1, rowN4 l ob cap'])
   (fun i => 4 - i.l.length) [.app ndT 4 [] none 0 0] rfl (fun _ => rfl) (fun _ => rfl) (fun _ _ => okHB_eq rfl)
   ⟨⟨[], none, 0, k0, 0, 0, fun w => SlAt a l0.length (intG l0) w⟩, ⟨⟨(fun _ h => by cases h), Gs.nil _ _, k0_ok, ⟨Nat.le_refl _, Nat.zero_le _⟩, fun _ => rfl, Nat.le_refl _, fun w hw => ⟨hw, (fun _ h => by cases h), k0_f w⟩⟩, Nat.zero_le _⟩, ?_, _, turn_refl _, ⟨wkE_refl _, wkE_refl _, wkE_refl _, wkE_refl _, wkE_refl _, wkH_nil _⟩⟩ ?_
  ·exact wKK
  rintro ⟨l, ob, cap', k', q, z', F⟩ ⟨hi, hln⟩
  have hln : l.length ≤ 4 := hln
  have hnil' : at0 ob = none → l = [] := at0_nil hi.nil
  have hcap : l.length ≤ cap' := hi.cap
  have hle : 0 ≤ q ∧ q ≤ g.l.length := hi.le
  have hAF : ∀ w, F w → NumF g w ∧ KnF k' w := fun w hw => ⟨hA w (hi.f w hw).1, (hi.f w hw).2.2⟩
  have hgl2 := ok.len
  refine wX ?_
  refine brd_dec (fun h6 => ?_) (fun h6 => ?_)
  ·refine wX ?_
   refine LdN.one (a := some ⟨g.gb, 0, none⟩) (q := 1) (.int .i64 (q : Int)) rfl (fun w hw => hw.2.1) rfl ?_
   refine wX ?_
   refine brd_dec (fun h7 => ?_) (fun h7 => ?_)
   ·have hql : q < g.l.length := by
     rw [hgn]
     have h7 : (q : Int) < ((200 : Nat) : Int) := h7
     omega
    refine wX ?_
    refine callG (pickx_c g ok q z' 12 ⟨by decide, by decide⟩ hql F (fun w hw => (hAF w hw).1)) [0, 2] rfl ⟨rfl, rfl, trivial⟩ rfl fun i hi3 => ?_
    obtain ⟨y, q2⟩ := i
    obtain ⟨j1, j2, j3⟩ := hi3
    have j2 : q < q2 := j2
    have j3 : q2 ≤ g.l.length := j3
    refine wX ?_
    refine brd_eq (fun h8 => ?_) (fun h8 => ?_)
    ·refine wXR ?_
     refine DrawN.planC (fun w => SlAt (some ⟨nb, 0, none⟩) 4 (nodeC ⟨26, [], 0, at0 ob, l, cap'⟩) w) [0] [(1, 1), (2, 0), (3, 0), (4, 0), (5, 0)] [(6, 0), (7, 0), (8, 0)] (by decide +kernel) (fun w hw => hw.2.2.1) ?_
     refine wXP ?_
     refine ReadC.one (a := some ⟨nb, 0, none⟩) (q := 3) (.slice (at0 ob) l.length cap') rfl rfl rfl (fun w hw => hw) rfl ?_
     refine wXP ?_
     refine callG (path_c g ok q2 z' j3 F (fun w hw => ⟨(hAF w hw).1, trivial⟩)) [0, 2] rfl ⟨rfl, rfl, trivial⟩ rfl fun j hj => ?_
     obtain ⟨t, q3, F2⟩ := j
     have hle2 : q2 ≤ q3 ∧ q3 ≤ g.l.length := hj.le
     have hgt : Gn k'.l t k'.l (1 + 8 * (q3 - q2)) 2 := hj.gn k'.l
     refine wXP ?_
     refine RwN.known (nodesC [t]) rfl fun ub => ?_
     refine wXP ?_
     refine call1 (node_c _ _ _ _ _ _) ?_
     refine wXP ?_
     refine RwN.own ?_
     refine wXP ?_
     have hgu : Gn k'.l ⟨45, [], 0, some ⟨ub, 0, none⟩, [t], 1⟩ k'.l (2 + 8 * (q3 - q2)) 23 := (Gn.q (s := 1 + 8 * (q3 - q2)) (d := 2) rfl (.some (Nat.le_refl 1)) (Nat.zero_le _) (by omega) hgt.s).le (by omega) (by omega)
     have htt : isTop ⟨45, [], 0, some ⟨ub, 0, none⟩, [t], 1⟩ := ⟨fun h => absurd rfl h, fun _ => .use hj.v hj.pa⟩
     try refine Nd.mk ⟨Nat.le_refl 1, rfl, rfl⟩ ?_
     (conv => whnf)
     refine AppN.grow 4 (nodesC l) (nodeC (⟨45, [], 0, some ⟨ub, 0, none⟩, [t], 1⟩ : TP)) rfl rfl ⟨Nat.le_refl 1, ⟨by show (l.length + 1) * 56 ≤ _; omega, by show l.length + 1 < _; omega⟩, by decide⟩ fun b8 c8 g18 g28 => ?_
     refine wX ?_
     have e18 : nodesC l ++ nodeC (⟨45, [], 0, some ⟨ub, 0, none⟩, [t], 1⟩ : TP) = nodesC (l ++ [(⟨45, [], 0, some ⟨ub, 0, none⟩, [t], 1⟩ : TP)]) := by rw [nodesC_one, nodesC_app]
     have e28 : l.length + 1 = (l ++ [(⟨45, [], 0, some ⟨ub, 0, none⟩, [t], 1⟩ : TP)]).length := by simp
     refine EffW.appTo (i := 3) (q := 3) (ys := [_]) (nodeC ⟨26, [], 0, some ⟨b8, 0, none⟩, l ++ [(⟨45, [], 0, some ⟨ub, 0, none⟩, [t], 1⟩ : TP)], c8⟩) 4 rfl rfl rfl rfl rfl rfl rfl (Nat.le_of_ble_eq_true rfl) (by rw [e28]; rfl) rfl ?_
     refine wX ?_
     rw [e18, e28]
     refine ⟨⟨l ++ [⟨45, [], 0, some ⟨ub, 0, none⟩, [t], 1⟩], some b8, c8, k', q3, z', _⟩, ⟨hi.snoc (allTop.snoc htt) hgu hi.kd ⟨by omega, hle2.2⟩ (by show 8 * q + (2 + 8 * (q3 - q2)) ≤ 8 * q3; omega) (fun w hw => ?_) g18, by show (l ++ [_]).length ≤ 4; rw [← e28]; omega⟩, by show 4 - (l ++ [_]).length < 4 - l.length; rw [← e28]; omega, ?_, _, sealT _ _ _ _ _, ⟨wkE_refl _, wkE_refl _, wkE_refl _, wkE_refl _, wkE_refl _, wkH_nil _⟩⟩
     ·obtain ⟨f1, f2⟩ := hj.f w hw.1
      exact ⟨f1, treeF hgu.tk hw.2.1 rfl (one_mem f2), (hi.f w f1).2.2⟩
     ·exact wKK
    ·refine wX ?_
     refine callG (gexpr_c 5 (by decide) g ok k' hi.kd q2 z' j3 F hAF) [0, 2] rfl ⟨rfl, rfl, trivial⟩ rfl fun j hj => ?_
     obtain ⟨t, k2, q3, z2, F2⟩ := j
     have hle2 : q2 ≤ q3 ∧ q3 ≤ g.l.length := hj.le
     have hgt : Gn k'.l t k2.l (1 + 8 * (q3 - q2)) 23 := hj.gn
     have hvt : V .ex t := hj.v
     have htt : isTop t := ⟨fun _ => hvt, fun e => absurd e (hvt.opx trivial (by intro e; cases e))⟩
     refine wX ?_
     refine LdN.one (a := some ⟨nb, 0, none⟩) (q := 3) (.slice (at0 ob) l.length cap') rfl (fun w hw => hw.2.2.1) rfl ?_
     refine wX ?_
     try refine Nd.mk ⟨Nat.le_refl 1, rfl, rfl⟩ ?_
     (conv => whnf)
     refine AppN.grow 4 (nodesC l) (nodeC t) rfl rfl ⟨Nat.le_refl 1, ⟨by show (l.length + 1) * 56 ≤ _; omega, by show l.length + 1 < _; omega⟩, by decide⟩ fun b8 c8 g18 g28 => ?_
     refine wX ?_
     have e18 : nodesC l ++ nodeC t = nodesC (l ++ [t]) := by rw [nodesC_one, nodesC_app]
     have e28 : l.length + 1 = (l ++ [t]).length := by simp
     refine EffW.appTo (i := 3) (q := 3) (ys := [_]) (nodeC ⟨26, [], 0, some ⟨b8, 0, none⟩, l ++ [t], c8⟩) 4 rfl rfl rfl rfl rfl rfl rfl (Nat.le_of_ble_eq_true rfl) (by rw [e28]; rfl) rfl ?_
     refine wX ?_
     rw [e18, e28]
     refine ⟨⟨l ++ [t], some b8, c8, k2, q3, z2, _⟩, ⟨hi.snoc (allTop.snoc htt) hgt hj.kd ⟨by omega, hle2.2⟩ (by show 8 * q + (1 + 8 * (q3 - q2)) ≤ 8 * q3; omega) (fun w hw => hj.f w hw.1) g18, by show (l ++ [t]).length ≤ 4; rw [← e28]; omega⟩, by show 4 - (l ++ [t]).length < 4 - l.length; rw [← e28]; omega, ?_, _, sealT _ _ _ _ _, ⟨wkE_refl _, wkE_refl _, wkE_refl _, wkE_refl _, wkE_refl _, wkH_nil _⟩⟩
     exact wKK
   ·refine wX ?_
    refine LdN.agg (a := some ⟨nb, 0, none⟩) (q := 0) (nodeC ⟨26, [], 0, at0 ob, l, cap'⟩) rfl (fun w hw => hw.2.2.1) rfl (fun j hj => by rw [Nat.zero_add]) ?_
    refine wX ?_
    have hg : Gn [] ⟨26, [], 0, at0 ob, l, cap'⟩ k'.l (8 * q + 1) 24 := Gn.q (s := 8 * q) (d := 23) rfl ⟨hnil', hcap⟩ (Nat.zero_le _) (by omega) hi.gs
    have hsz := hg.sz
    have hdp := hg.dp
    refine fin_p (TreeF · ⟨26, [], 0, at0 ob, l, cap'⟩) ⟨⟨26, [], 0, at0 ob, l, cap'⟩, rfl, ⟨.top (fun k hk => (hi.v k hk).1) (fun k hk => (hi.v k hk).2), ⟨_, hg.kn⟩, by omega, by omega, hg.hn, hg.tk⟩, fun w hw => hw⟩ fun w hw => ?_
    exact treeF hg.tk hw.2.2.2.1 rfl (hi.f w hw.1).2.1
  ·refine wX ?_
   refine LdN.agg (a := some ⟨nb, 0, none⟩) (q := 0) (nodeC ⟨26, [], 0, at0 ob, l, cap'⟩) rfl (fun w hw => hw.2.2.1) rfl (fun j hj => by rw [Nat.zero_add]) ?_
   refine wX ?_
   have hg : Gn [] ⟨26, [], 0, at0 ob, l, cap'⟩ k'.l (8 * q + 1) 24 := Gn.q (s := 8 * q) (d := 23) rfl ⟨hnil', hcap⟩ (Nat.zero_le _) (by omega) hi.gs
   have hsz := hg.sz
   have hdp := hg.dp
   refine fin_p (TreeF · ⟨26, [], 0, at0 ob, l, cap'⟩) ⟨⟨26, [], 0, at0 ob, l, cap'⟩, rfl, ⟨.top (fun k hk => (hi.v k hk).1) (fun k hk => (hi.v k hk).2), ⟨_, hg.kn⟩, by omega, by omega, hg.hn, hg.tk⟩, fun w hw => hw⟩ fun w hw => ?_
   exact treeF hg.tk hw.2.2.2.1 rfl (hi.f w hw.1).2.1
 ·have hn : l0.length = l0.length := rfl
  have hlen : l0.length ≤ 200 := by omega
  have hnil := hna
  refine wXB ?_
  refine BoxN.known [.slice none 0 0, .int .i64 0, .int .i64 0] rfl fun gb => ?_
  obtain ⟨g, hgd⟩ : ∃ g : GD, g = ⟨gb, a, cap, l0⟩ := ⟨_, rfl⟩
  have hgb : g.gb = gb := by rw [hgd]
  have hgl : g.l = l0 := by rw [hgd]
  have hgn : g.l.length = l0.length := by rw [hgl]; try exact hn
  have ok : GOk g := ⟨by rw [hgn]; exact hlen, fun h => by rw [hgl]; rw [hgd] at h; exact hnil h⟩
  have hA : ∀ w, SlAt a l0.length (intG l0) w → NumF g w := fun w hw => by
   show SlAt g.na g.l.length (intG g.l) w
   rw [hgn, hgl, hgd]
   exact ((fun _ hw => hw)) w hw
  obtain rfl := hgb
  refine wXB ?_
  refine EffW.appTo (i := 2) (q := 0) (ys := [_, _, _]) (grC g 0 0) 3 rfl rfl rfl rfl rfl rfl rfl (Nat.le_of_ble_eq_true rfl) (by rw [grC, hgn]; try (rw [hgd]); try rfl) rfl ?_
  refine wXB ?_
  refine call1 (node_c _ _ _ _ _ _) ?_
  refine wXB ?_
  refine BoxN.known (nodeC ⟨0, [], 0, none, [], 0⟩) rfl fun nb => ?_
  refine wXB ?_
  refine EffW.appTo (i := 3) (q := 0) (ys := [_, _, _, _]) (nodeC ⟨26, [], 0, none, [], 0⟩) 4 rfl rfl rfl rfl rfl rfl rfl (Nat.le_of_ble_eq_true rfl) rfl rfl ?_
  refine wX ?_
  refine LoopN.introS SmI (fun i => GrInv allTop g (fun w => SlAt a l0.length (intG l0) w) k0 0 23 (fun _ q => 8 * q) i ∧ i.l.length ≤ 4)
   (fun ⟨l, _, _, k', _, _, _⟩ => mkS Tryz.f6.ntmps 0 [(0, .c (.v (.slice a l0.length cap))), (2, .c (.lp 1 0)), (3, .c (.v (gP g))), (4, .c (.v (.pointer (some ⟨nb, 0, none⟩)))), (5, .c (.v (knV k'))), (6, .c (.v (.int .i64 (l.length : Int))))])
   (fun ⟨l, ob, cap', _, q, z', F⟩ => [.fact F, .blk ndT [.v (.int .i64 0), .v (.string (bs [])), .v (.int .i64 0), .v (.slice none 0 0)], grE g q z', .app ndT 4 (nodeC ⟨26, [], 0, at0 ob, l, cap'⟩) (some ⟨nb, 0, none⟩) 1 1, rowN4 l ob cap'])
   (fun i => 4 - i.l.length) [.app ndT 4 [] none 0 0] rfl (fun _ => rfl) (fun _ => rfl) (fun _ _ => okHB_eq rfl)
   ⟨⟨[], none, 0, k0, 0, 0, fun w => SlAt a l0.length (intG l0) w⟩, ⟨⟨(fun _ h => by cases h), Gs.nil _ _, k0_ok, ⟨Nat.le_refl _, Nat.zero_le _⟩, fun _ => rfl, Nat.le_refl _, fun w hw => ⟨hw, (fun _ h => by cases h), k0_f w⟩⟩, Nat.zero_le _⟩, ?_, _, turn_refl _, ⟨wkE_refl _, wkE_refl _, wkE_refl _, wkE_refl _, wkE_refl _, wkH_nil _⟩⟩ ?_
  ·exact wKK
  rintro ⟨l, ob, cap', k', q, z', F⟩ ⟨hi, hln⟩
  have hln : l.length ≤ 4 := hln
  have hnil' : at0 ob = none → l = [] := at0_nil hi.nil
  have hcap : l.length ≤ cap' := hi.cap
  have hle : 0 ≤ q ∧ q ≤ g.l.length := hi.le
  have hAF : ∀ w, F w → NumF g w ∧ KnF k' w := fun w hw => ⟨hA w (hi.f w hw).1, (hi.f w hw).2.2⟩
  have hgl2 := ok.len
  refine wX ?_
  refine brd_dec (fun h6 => ?_) (fun h6 => ?_)
  ·refine wX ?_
   refine LdN.one (a := some ⟨g.gb, 0, none⟩) (q := 1) (.int .i64 (q : Int)) rfl (fun w hw => hw.2.1) rfl ?_
   refine wX ?_
   refine brd_dec (fun h7 => ?_) (fun h7 => ?_)
   ·have hql : q < g.l.length := by
     rw [hgn]
     have h7 : (q : Int) < ((l0.length : Nat) : Int) := h7
     omega
    refine wX ?_
    refine callG (pickx_c g ok q z' 12 ⟨by decide, by decide⟩ hql F (fun w hw => (hAF w hw).1)) [0, 2] rfl ⟨rfl, rfl, trivial⟩ rfl fun i hi3 => ?_
    obtain ⟨y, q2⟩ := i
    obtain ⟨j1, j2, j3⟩ := hi3
    have j2 : q < q2 := j2
    have j3 : q2 ≤ g.l.length := j3
    refine wX ?_
    refine brd_eq (fun h8 => ?_) (fun h8 => ?_)
    ·refine wXR ?_
     refine DrawN.planC (fun w => SlAt (some ⟨nb, 0, none⟩) 4 (nodeC ⟨26, [], 0, at0 ob, l, cap'⟩) w) [0] [(1, 1), (2, 0), (3, 0), (4, 0), (5, 0)] [(6, 0), (7, 0), (8, 0)] (by decide +kernel) (fun w hw => hw.2.2.1) ?_
     refine wXP ?_
     refine ReadC.one (a := some ⟨nb, 0, none⟩) (q := 3) (.slice (at0 ob) l.length cap') rfl rfl rfl (fun w hw => hw) rfl ?_
     refine wXP ?_
     refine callG (path_c g ok q2 z' j3 F (fun w hw => ⟨(hAF w hw).1, trivial⟩)) [0, 2] rfl ⟨rfl, rfl, trivial⟩ rfl fun j hj => ?_
     obtain ⟨t, q3, F2⟩ := j
     have hle2 : q2 ≤ q3 ∧ q3 ≤ g.l.length := hj.le
     have hgt : Gn k'.l t k'.l (1 + 8 * (q3 - q2)) 2 := hj.gn k'.l
     refine wXP ?_
     refine RwN.known (nodesC [t]) rfl fun ub => ?_
     refine wXP ?_
     refine call1 (node_c _ _ _ _ _ _) ?_
     refine wXP ?_
     refine RwN.own ?_
     refine wXP ?_
     have hgu : Gn k'.l ⟨45, [], 0, some ⟨ub, 0, none⟩, [t], 1⟩ k'.l (2 + 8 * (q3 - q2)) 23 := (Gn.q (s := 1 + 8 * (q3 - q2)) (d := 2) rfl (.some (Nat.le_refl 1)) (Nat.zero_le _) (by omega) hgt.s).le (by omega) (by omega)
     have htt : isTop ⟨45, [], 0, some ⟨ub, 0, none⟩, [t], 1⟩ := ⟨fun h => absurd rfl h, fun _ => .use hj.v hj.pa⟩
     try refine Nd.mk ⟨Nat.le_refl 1, rfl, rfl⟩ ?_
     (conv => whnf)
     refine AppN.grow 4 (nodesC l) (nodeC (⟨45, [], 0, some ⟨ub, 0, none⟩, [t], 1⟩ : TP)) rfl rfl ⟨Nat.le_refl 1, ⟨by show (l.length + 1) * 56 ≤ _; omega, by show l.length + 1 < _; omega⟩, by decide⟩ fun b8 c8 g18 g28 => ?_
     refine wX ?_
     have e18 : nodesC l ++ nodeC (⟨45, [], 0, some ⟨ub, 0, none⟩, [t], 1⟩ : TP) = nodesC (l ++ [(⟨45, [], 0, some ⟨ub, 0, none⟩, [t], 1⟩ : TP)]) := by rw [nodesC_one, nodesC_app]
     have e28 : l.length + 1 = (l ++ [(⟨45, [], 0, some ⟨ub, 0, none⟩, [t], 1⟩ : TP)]).length := by simp
     refine EffW.appTo (i := 3) (q := 3) (ys := [_]) (nodeC ⟨26, [], 0, some ⟨b8, 0, none⟩, l ++ [(⟨45, [], 0, some ⟨ub, 0, none⟩, [t], 1⟩ : TP)], c8⟩) 4 rfl rfl rfl rfl rfl rfl rfl (Nat.le_of_ble_eq_true rfl) (by rw [e28]; rfl) rfl ?_
     refine wX ?_
     rw [e18, e28]
     refine ⟨⟨l ++ [⟨45, [], 0, some ⟨ub, 0, none⟩, [t], 1⟩], some b8, c8, k', q3, z', _⟩, ⟨hi.snoc (allTop.snoc htt) hgu hi.kd ⟨by omega, hle2.2⟩ (by show 8 * q + (2 + 8 * (q3 - q2)) ≤ 8 * q3; omega) (fun w hw => ?_) g18, by show (l ++ [_]).length ≤ 4; rw [← e28]; omega⟩, by show 4 - (l ++ [_]).length < 4 - l.length; rw [← e28]; omega, ?_, _, sealT _ _ _ _ _, ⟨wkE_refl _, wkE_refl _, wkE_refl _, wkE_refl _, wkE_refl _, wkH_nil _⟩⟩
     ·obtain ⟨f1, f2⟩ := hj.f w hw.1
      exact ⟨f1, treeF hgu.tk hw.2.1 rfl (one_mem f2), (hi.f w f1).2.2⟩
     ·exact wKK
    ·refine wX ?_
     refine callG (gexpr_c 5 (by decide) g ok k' hi.kd q2 z' j3 F hAF) [0, 2] rfl ⟨rfl, rfl, trivial⟩ rfl fun j hj => ?_
     obtain ⟨t, k2, q3, z2, F2⟩ := j
     have hle2 : q2 ≤ q3 ∧ q3 ≤ g.l.length := hj.le
     have hgt : Gn k'.l t k2.l (1 + 8 * (q3 - q2)) 23 := hj.gn
     have hvt : V .ex t := hj.v
     have htt : isTop t := ⟨fun _ => hvt, fun e => absurd e (hvt.opx trivial (by intro e; cases e))⟩
     refine wX ?_
     refine LdN.one (a := some ⟨nb, 0, none⟩) (q := 3) (.slice (at0 ob) l.length cap') rfl (fun w hw => hw.2.2.1) rfl ?_
     refine wX ?_
     try refine Nd.mk ⟨Nat.le_refl 1, rfl, rfl⟩ ?_
     (conv => whnf)
     refine AppN.grow 4 (nodesC l) (nodeC t) rfl rfl ⟨Nat.le_refl 1, ⟨by show (l.length + 1) * 56 ≤ _; omega, by show l.length + 1 < _; omega⟩, by decide⟩ fun b8 c8 g18 g28 => ?_
     refine wX ?_
     have e18 : nodesC l ++ nodeC t = nodesC (l ++ [t]) := by rw [nodesC_one, nodesC_app]
     have e28 : l.length + 1 = (l ++ [t]).length := by simp
     refine EffW.appTo (i := 3) (q := 3) (ys := [_]) (nodeC ⟨26, [], 0, some ⟨b8, 0, none⟩, l ++ [t], c8⟩) 4 rfl rfl rfl rfl rfl rfl rfl (Nat.le_of_ble_eq_true rfl) (by rw [e28]; rfl) rfl ?_
     refine wX ?_
     rw [e18, e28]
     refine ⟨⟨l ++ [t], some b8, c8, k2, q3, z2, _⟩, ⟨hi.snoc (allTop.snoc htt) hgt hj.kd ⟨by omega, hle2.2⟩ (by show 8 * q + (1 + 8 * (q3 - q2)) ≤ 8 * q3; omega) (fun w hw => hj.f w hw.1) g18, by show (l ++ [t]).length ≤ 4; rw [← e28]; omega⟩, by show 4 - (l ++ [t]).length < 4 - l.length; rw [← e28]; omega, ?_, _, sealT _ _ _ _ _, ⟨wkE_refl _, wkE_refl _, wkE_refl _, wkE_refl _, wkE_refl _, wkH_nil _⟩⟩
     exact wKK
   ·refine wX ?_
    refine LdN.agg (a := some ⟨nb, 0, none⟩) (q := 0) (nodeC ⟨26, [], 0, at0 ob, l, cap'⟩) rfl (fun w hw => hw.2.2.1) rfl (fun j hj => by rw [Nat.zero_add]) ?_
    refine wX ?_
    have hg : Gn [] ⟨26, [], 0, at0 ob, l, cap'⟩ k'.l (8 * q + 1) 24 := Gn.q (s := 8 * q) (d := 23) rfl ⟨hnil', hcap⟩ (Nat.zero_le _) (by omega) hi.gs
    have hsz := hg.sz
    have hdp := hg.dp
    refine fin_p (TreeF · ⟨26, [], 0, at0 ob, l, cap'⟩) ⟨⟨26, [], 0, at0 ob, l, cap'⟩, rfl, ⟨.top (fun k hk => (hi.v k hk).1) (fun k hk => (hi.v k hk).2), ⟨_, hg.kn⟩, by omega, by omega, hg.hn, hg.tk⟩, fun w hw => hw⟩ fun w hw => ?_
    exact treeF hg.tk hw.2.2.2.1 rfl (hi.f w hw.1).2.1
  ·refine wX ?_
   refine LdN.agg (a := some ⟨nb, 0, none⟩) (q := 0) (nodeC ⟨26, [], 0, at0 ob, l, cap'⟩) rfl (fun w hw => hw.2.2.1) rfl (fun j hj => by rw [Nat.zero_add]) ?_
   refine wX ?_
   have hg : Gn [] ⟨26, [], 0, at0 ob, l, cap'⟩ k'.l (8 * q + 1) 24 := Gn.q (s := 8 * q) (d := 23) rfl ⟨hnil', hcap⟩ (Nat.zero_le _) (by omega) hi.gs
   have hsz := hg.sz
   have hdp := hg.dp
   refine fin_p (TreeF · ⟨26, [], 0, at0 ob, l, cap'⟩) ⟨⟨26, [], 0, at0 ob, l, cap'⟩, rfl, ⟨.top (fun k hk => (hi.v k hk).1) (fun k hk => (hi.v k hk).2), ⟨_, hg.kn⟩, by omega, by omega, hg.hn, hg.tk⟩, fun w hw => hw⟩ fun w hw => ?_
   exact treeF hg.tk hw.2.2.2.1 rfl (hi.f w hw.1).2.1
end Go.Proofs.YtpikpjlhdkkigaaGreatDoor
namespace Go.Tree
open Go.Scan
set_option maxRecDepth 20000
theorem er_nil {ks : List TP} (h : ers ks = []) : ks = [] := by cases ks with | nil => rfl | cons k l => cases h
theorem er_cons {ks l : List TP} {k : TP} (h : ers ks = k :: l) : ∃ k' l', ks = k' :: l' ∧ k'.er = k ∧ ers l' = l := by
 cases ks with
 | nil => cases h
 | cons k' l' => exact ⟨k', l', rfl, (List.cons.inj h).1, (List.cons.inj h).2⟩
theorem er_one {ks : List TP} {k : TP} (h : ers ks = [k]) : ∃ k', ks = [k'] ∧ k'.er = k := by
 obtain ⟨k', l', rfl, h1, h2⟩ := er_cons h
 rw [er_nil h2]
 exact ⟨k', rfl, h1⟩
theorem er_app : ∀ {l m ks : List TP}, ers ks = l ++ m → ∃ l' m', ks = l' ++ m' ∧ ers l' = l ∧ ers m' = m
 | [], m, ks, h => ⟨[], ks, rfl, rfl, h⟩
 | k :: l, m, ks, h => by
  obtain ⟨k', r, rfl, h1, h2⟩ := er_cons h
  obtain ⟨l', m', rfl, h3, h4⟩ := er_app h2
  exact ⟨k' :: l', m', rfl, by rw [ers, h1, h3], h4⟩
theorem er_len (l : List TP) : (ers l).length = l.length := by rw [ers_map, List.length_map]
theorem er_opx (t : TP) : t.er.op = t.op ∧ t.er.n = t.n ∧ t.er.name = t.name ∧ t.er.kids = ers t.kids := by cases t; exact ⟨rfl, rfl, rfl, rfl⟩
theorem er_mem {l : List TP} {k : TP} (h : k ∈ l) : k.er ∈ ers l := by rw [ers_map]; exact List.mem_map_of_mem h
theorem parOk_er : ∀ (l : List TP) (k : Int) (us : List (List UInt8)), parOk k us (ers l) → parOk k us l
 | [], _, _, _ => trivial
 | p :: ps, k, us, h => by
  obtain ⟨a1, a2, a3, a4, a5⟩ := h
  obtain ⟨e1, e2, e3, _⟩ := er_opx p
  rw [e2] at a1 a2 a3 a5
  rw [e3] at a4 a5
  exact ⟨a1, a2, a3, a4, parOk_er ps _ _ a5⟩
theorem path_er {t : TP} (h : pathT t.er) : pathT t := by
 obtain ⟨o, x, n, a, ks, c⟩ := t
 rcases h with h | ⟨h, k, hk, ho⟩
 ·exact .inl h
 ·obtain ⟨k', hk', e⟩ := er_one (show ers ks = [k] from hk)
  exact .inr ⟨h, k', hk', by rw [← e, (er_opx k').1] at ho; exact ho⟩
theorem const_er {t : TP} (h : constT t.er) : constT t := by
 have e := (er_opx t).1
 unfold constT at h ⊢
 rw [e] at h
 rcases h with h | h | h | h | h | h | h | h
 ·exact .inl h
 ·exact .inr (.inl h)
 ·exact .inr (.inr (.inl h))
 ·exact .inr (.inr (.inr (.inl h)))
 ·exact .inr (.inr (.inr (.inr (.inl h))))
 ·exact .inr (.inr (.inr (.inr (.inr (.inl h)))))
 ·exact .inr (.inr (.inr (.inr (.inr (.inr (.inl h))))))
 ·exact .inr (.inr (.inr (.inr (.inr (.inr (.inr (path_er h)))))))
theorem filter_er (l : List TP) : ((ers l).filter fun k => k.op == 52).length = (l.filter fun k => k.op == 52).length := by
 induction l with
 | nil => rfl
 | cons k l ih =>
  rw [ers, List.filter_cons, List.filter_cons, (er_opx k).1]
  split <;> simp [ih]
def Un (k : TP) : Prop := ∀ {r : Ro}, V r k.er → V r k
theorem un_all {r : Ro} {l l' : List TP} (ih : ∀ k ∈ l', Un k) (e : ers l' = l) (h : ∀ k ∈ l, V r k) : ∀ k ∈ l', V r k := fun k hk => ih k hk (h _ (by rw [← e]; exact er_mem hk))
set_option maxHeartbeats 2000000 in
theorem V.uner : ∀ t : TP, Un t := by
  refine TP.ind fun t ih r h => ?_
  have hx : ∀ {r : Ro}, r ≠ .arg → V r t.er → V r t := by
   clear h
   intro r ha h
   obtain ⟨o, x, n, a, ks, c⟩ := t
   have ih : ∀ k ∈ ks, Un k := ih
   have hop := fun k => (er_opx k).1
   change V r ⟨o, x, n, none, ers ks, 0⟩ at h
   generalize hL : ers ks = L at h
   cases h with
   | bare ho => rw [er_nil hL]; exact .bare ho
   | int h => rw [er_nil hL]; exact .int h
   | str h => rw [er_nil hL]; exact .str h
   | sym h => rw [er_nil hL]; exact .sym h
   | dstr1 h hs =>
     obtain ⟨k', rfl, rfl⟩ := er_one hL
     have iu : Un k' := ih k' (List.mem_cons_self ..)
     exact .dstr1 (iu h) ((hop _).symm.trans hs)
   | dstr3 h hs hx hy =>
     obtain ⟨k1, l1, rfl, d1, e1⟩ := er_cons hL
     obtain ⟨k2, l2, rfl, d2, e2⟩ := er_cons e1
     obtain ⟨k3, rfl, d3⟩ := er_one e2
     obtain ⟨o1, x1, n1, a1, m1, c1⟩ := k1
     obtain ⟨o3, x3, n3, a3, m3, c3⟩ := k3
     have i2 : Un k2 := ih k2 (by simp)
     rw [TP.er, TP.mk.injEq] at d1 d3
     obtain ⟨rfl, rfl, rfl, _, f1, _⟩ := d1
     obtain ⟨rfl, rfl, rfl, _, f3, _⟩ := d3
     rw [er_nil f1, er_nil f3]
     subst d2
     exact .dstr3 (i2 h) ((hop _).symm.trans hs) hx hy
   | args ho h => exact .args ho (un_all ih hL h)
   | hash h2 h => exact .hash (by rw [← er_len, hL]; exact h2) (un_all ih hL h)
   | loc h => rw [er_nil hL]; exact .loc h
   | setl h hk =>
     obtain ⟨k', rfl, rfl⟩ := er_one hL
     have iu : Un k' := ih k' (List.mem_cons_self ..)
     exact .setl h (iu hk)
   | ivar h => rw [er_nil hL]; exact .ivar h
   | seti h hk =>
     obtain ⟨k', rfl, rfl⟩ := er_one hL
     have iu : Un k' := ih k' (List.mem_cons_self ..)
     exact .seti h (iu hk)
   | const h => rw [er_nil hL]; exact .const h
   | scope ho h hk =>
     obtain ⟨k', rfl, rfl⟩ := er_one hL
     have iu : Un k' := ih k' (List.mem_cons_self ..)
     exact .scope ho h (iu hk)
   | cop h hk hl h1 h2 h3 =>
     obtain ⟨k', l', rfl, rfl, el⟩ := er_cons hL
     have iu : Un k' := ih k' (List.mem_cons_self ..)
     have hlen : ∀ {l : List TP}, ers l' = l → l.length = l'.length := fun e => by rw [← e, er_len]
     rw [hlen el] at h1 h2 h3
     exact .cop h (iu hk) (un_all (fun k hk => ih k (List.mem_cons_of_mem _ hk)) el hl) h1 h2 h3
   | cset h ho he hk hq =>
     obtain ⟨k', l1, rfl, rfl, e1⟩ := er_cons hL
     obtain ⟨q', rfl, rfl⟩ := er_one e1
     have iu : Un k' := ih k' (List.mem_cons_self ..)
     have iq : Un q' := ih q' (by simp)
     exact .cset h ho he (iu hk) (iq hq)
   | call h ho he hn hk hl hb h1 =>
     obtain ⟨k', l1, rfl, rfl, e1⟩ := er_cons hL
     obtain ⟨l', b', rfl, el, eb⟩ := er_app e1
     have iu : Un k' := ih k' (List.mem_cons_self ..)
     have il : ∀ k ∈ l', Un k := fun k hk => ih k (List.mem_cons_of_mem _ (List.mem_append_left _ hk))
     have ib : ∀ k ∈ b', Un k := fun k hk => ih k (List.mem_cons_of_mem _ (List.mem_append_right _ hk))
     exact .call h ho he hn (iu hk) (un_all il el hl) (un_all ib eb hb) (by rw [← er_len, eb]; exact h1)
   | fcall h hl hb h1 =>
     obtain ⟨l', b', rfl, el, eb⟩ := er_app hL
     have il : ∀ k ∈ l', Un k := fun k hk => ih k (List.mem_append_left _ hk)
     have ib : ∀ k ∈ b', Un k := fun k hk => ih k (List.mem_append_right _ hk)
     exact .fcall h (un_all il el hl) (un_all ib eb hb) (by rw [← er_len, eb]; exact h1)
   | super hl hb h1 =>
     obtain ⟨l', b', rfl, el, eb⟩ := er_app hL
     have il : ∀ k ∈ l', Un k := fun k hk => ih k (List.mem_append_left _ hk)
     have ib : ∀ k ∈ b', Un k := fun k hk => ih k (List.mem_append_right _ hk)
     exact .super (un_all il el hl) (un_all ib eb hb) (by rw [← er_len, eb]; exact h1)
   | zsup => rw [er_nil hL]; exact .zsup
   | lam hl hp hs h =>
     obtain ⟨l', b', rfl, el, eb⟩ := er_app hL
     have il : ∀ k ∈ l', Un k := fun k hk => ih k (List.mem_append_left _ hk)
     have ib : ∀ k ∈ b', Un k := fun k hk => ih k (List.mem_append_right _ hk)
     obtain ⟨s', rfl, rfl⟩ := er_one eb
     have is' : Un s' := ib s' (List.mem_cons_self ..)
     exact .lam (un_all il el hl) (parOk_er _ _ _ (by rw [el]; exact hp)) (is' hs) ((hop _).symm.trans h)
   | seq h => exact .seq (un_all ih hL h)
   | iff hk hs hso hq hqo =>
     obtain ⟨k', l1, rfl, rfl, e1⟩ := er_cons hL
     obtain ⟨s', l2, rfl, rfl, e2⟩ := er_cons e1
     obtain ⟨q', rfl, rfl⟩ := er_one e2
     have iu : Un k' := ih k' (List.mem_cons_self ..)
     have is' : Un s' := ih s' (by simp)
     have iq : Un q' := ih q' (by simp)
     exact .iff (iu hk) (is' hs) ((hop _).symm.trans hso) (iq hq) ((hop _).symm.trans hqo)
   | whil ho hk hs hso =>
     obtain ⟨k', l1, rfl, rfl, e1⟩ := er_cons hL
     obtain ⟨q', rfl, rfl⟩ := er_one e1
     have iu : Un k' := ih k' (List.mem_cons_self ..)
     have iq : Un q' := ih q' (by simp)
     exact .whil ho (iu hk) (iq hs) ((hop _).symm.trans hso)
   | and ho hk hq =>
     obtain ⟨k', l1, rfl, rfl, e1⟩ := er_cons hL
     obtain ⟨q', rfl, rfl⟩ := er_one e1
     have iu : Un k' := ih k' (List.mem_cons_self ..)
     have iq : Un q' := ih q' (by simp)
     exact .and ho (iu hk) (iq hq)
   | not hk =>
     obtain ⟨k', rfl, rfl⟩ := er_one hL
     have iu : Un k' := ih k' (List.mem_cons_self ..)
     exact .not (iu hk)
   | cls0 h hs hso =>
     obtain ⟨k', rfl, rfl⟩ := er_one hL
     have iu : Un k' := ih k' (List.mem_cons_self ..)
     exact .cls0 h (iu hs) ((hop _).symm.trans hso)
   | cls1 h hk hs hso =>
     obtain ⟨k', l1, rfl, rfl, e1⟩ := er_cons hL
     obtain ⟨q', rfl, rfl⟩ := er_one e1
     have iu : Un k' := ih k' (List.mem_cons_self ..)
     have iq : Un q' := ih q' (by simp)
     exact .cls1 h (iu hk) (iq hs) ((hop _).symm.trans hso)
   | modu h hs hso =>
     obtain ⟨k', rfl, rfl⟩ := er_one hL
     have iu : Un k' := ih k' (List.mem_cons_self ..)
     exact .modu h (iu hs) ((hop _).symm.trans hso)
   | dfn h hn hl hp hs hso =>
     obtain ⟨l', b', rfl, el, eb⟩ := er_app hL
     have il : ∀ k ∈ l', Un k := fun k hk => ih k (List.mem_append_left _ hk)
     have ib : ∀ k ∈ b', Un k := fun k hk => ih k (List.mem_append_right _ hk)
     obtain ⟨s', rfl, rfl⟩ := er_one eb
     have is' : Un s' := ib s' (List.mem_cons_self ..)
     exact .dfn h hn (un_all il el hl) (parOk_er _ _ _ (by rw [el]; exact hp)) (is' hs) ((hop _).symm.trans hso)
   | ret ho h1 h => exact .ret ho (by rw [← er_len, hL]; exact h1) (un_all ih hL h)
   | begin hs hso hl he h1 h2 =>
     obtain ⟨k', l1, rfl, rfl, e1⟩ := er_cons hL
     obtain ⟨l', b', rfl, el, eb⟩ := er_app e1
     have iu : Un k' := ih k' (List.mem_cons_self ..)
     have il : ∀ k ∈ l', Un k := fun k hk => ih k (List.mem_cons_of_mem _ (List.mem_append_left _ hk))
     have ib : ∀ k ∈ b', Un k := fun k hk => ih k (List.mem_cons_of_mem _ (List.mem_append_right _ hk))
     have e3 := er_len l'
     have e4 := er_len b'
     rw [el] at e3
     rw [eb] at e4
     exact .begin (iu hs) ((hop _).symm.trans hso) (un_all il el hl) (un_all ib eb he) (by rw [← e4]; exact h1) (by rw [← e3, ← e4]; exact h2)
   | alias h hy =>
     obtain ⟨k1, rfl, d1⟩ := er_one hL
     obtain ⟨o1, x1, n1, a1, m1, c1⟩ := k1
     rw [TP.er, TP.mk.injEq] at d1
     obtain ⟨rfl, rfl, rfl, _, f1, _⟩ := d1
     rw [er_nil f1]
     exact .alias h hy
   | undef h => rw [er_nil hL]; exact .undef h
   | cas hn hk hl h1 he h2 =>
     obtain ⟨k', l1, rfl, rfl, e1⟩ := er_cons hL
     obtain ⟨l', b', rfl, el, eb⟩ := er_app e1
     have iu : Un k' := ih k' (List.mem_cons_self ..)
     have il : ∀ k ∈ l', Un k := fun k hk => ih k (List.mem_cons_of_mem _ (List.mem_append_left _ hk))
     have ib : ∀ k ∈ b', Un k := fun k hk => ih k (List.mem_cons_of_mem _ (List.mem_append_right _ hk))
     have e3 := er_len l'
     have e4 := er_len b'
     rw [el] at e3
     rw [eb] at e4
     exact .cas hn (iu hk) (un_all il el hl) (by rw [← e3]; exact h1) (un_all ib eb he) (by rw [← e4]; exact h2)
   | argx h => exact absurd rfl ha
   | splat h => exact absurd rfl ha
   | bpass h =>
     obtain ⟨k', rfl, rfl⟩ := er_one hL
     have iu : Un k' := ih k' (List.mem_cons_self ..)
     exact .bpass (iu h)
   | block hl hp hs h =>
     obtain ⟨l', b', rfl, el, eb⟩ := er_app hL
     have il : ∀ k ∈ l', Un k := fun k hk => ih k (List.mem_append_left _ hk)
     have ib : ∀ k ∈ b', Un k := fun k hk => ih k (List.mem_append_right _ hk)
     obtain ⟨s', rfl, rfl⟩ := er_one eb
     have is' : Un s' := ib s' (List.mem_cons_self ..)
     exact .block (un_all il el hl) (parOk_er _ _ _ (by rw [el]; exact hp)) (is' hs) ((hop _).symm.trans h)
   | par0 => rw [er_nil hL]; exact .par0
   | parn h hn => rw [er_nil hL]; exact .parn h hn
   | par1 h hk =>
     obtain ⟨k', rfl, rfl⟩ := er_one hL
     have iu : Un k' := ih k' (List.mem_cons_self ..)
     exact .par1 h (iu hk)
   | res h hl hs hso =>
     obtain ⟨l', b', rfl, el, eb⟩ := er_app hL
     have il : ∀ k ∈ l', Un k := fun k hk => ih k (List.mem_append_left _ hk)
     have ib : ∀ k ∈ b', Un k := fun k hk => ih k (List.mem_append_right _ hk)
     obtain ⟨s', rfl, rfl⟩ := er_one eb
     have is' : Un s' := ib s' (List.mem_cons_self ..)
     exact .res h (un_all il el hl) (is' hs) ((hop _).symm.trans hso)
   | ens hs hso =>
     obtain ⟨k', rfl, rfl⟩ := er_one hL
     have iu : Un k' := ih k' (List.mem_cons_self ..)
     exact .ens (iu hs) ((hop _).symm.trans hso)
   | els hs hso =>
     obtain ⟨k', rfl, rfl⟩ := er_one hL
     have iu : Un k' := ih k' (List.mem_cons_self ..)
     exact .els (iu hs) ((hop _).symm.trans hso)
   | inn hp hs hso =>
     obtain ⟨k', l1, rfl, rfl, e1⟩ := er_cons hL
     obtain ⟨q', rfl, rfl⟩ := er_one e1
     have iu : Un k' := ih k' (List.mem_cons_self ..)
     have iq : Un q' := ih q' (by simp)
     exact .inn (iu hp) (iq hs) ((hop _).symm.trans hso)
   | ing hp hk hs hso =>
     obtain ⟨k', l1, rfl, rfl, e1⟩ := er_cons hL
     obtain ⟨s', l2, rfl, rfl, e2⟩ := er_cons e1
     obtain ⟨q', rfl, rfl⟩ := er_one e2
     have iu : Un k' := ih k' (List.mem_cons_self ..)
     have is' : Un s' := ih s' (by simp)
     have iq : Un q' := ih q' (by simp)
     exact .ing (iu hp) (is' hk) (iq hs) ((hop _).symm.trans hso)
   | pval0 hk =>
     obtain ⟨k', rfl, rfl⟩ := er_one hL
     have iu : Un k' := ih k' (List.mem_cons_self ..)
     exact .pval0 (iu hk)
   | pval1 hk hc =>
     obtain ⟨k', rfl, rfl⟩ := er_one hL
     have iu : Un k' := ih k' (List.mem_cons_self ..)
     exact .pval1 (iu hk) (const_er hc)
   | palt0 hl ho h2 => exact .palt0 (un_all ih hL hl) (fun k hk => (hop k).symm.trans (ho _ (by rw [← hL]; exact er_mem hk))) (by rw [← er_len, hL]; exact h2)
   | palt1 hl h2 => exact .palt1 (un_all ih hL hl) (by rw [← er_len, hL]; exact h2)
   | pbind h hx => rw [er_nil hL]; exact .pbind h hx
   | pany => rw [er_nil hL]; exact .pany
   | parr hl hr h1 =>
     refine .parr (fun k hk ho => ih k hk (hl _ (by rw [← hL]; exact er_mem hk) (by rw [hop]; exact ho))) (fun k hk ho => ih k hk (hr _ (by rw [← hL]; exact er_mem hk) (by rw [hop]; exact ho))) ?_
     rw [← filter_er, hL]
     exact h1
   | prest h => rw [er_nil hL]; exact .prest h
   | use hk hp =>
     obtain ⟨k', rfl, rfl⟩ := er_one hL
     have iu : Un k' := ih k' (List.mem_cons_self ..)
     exact .use (iu hk) (path_er hp)
   | top h hu => exact .top (fun k hk ho => ih k hk (h _ (by rw [← hL]; exact er_mem hk) (by rw [hop]; exact ho))) (fun k hk ho => ih k hk (hu _ (by rw [← hL]; exact er_mem hk) (by rw [hop]; exact ho)))
  by_cases ha : r = .arg
  · subst ha
    rcases arg_cases h with h | ⟨a, c, k, hk, e⟩
    · exact .argx (hx (by intro e; cases e) h)
    · obtain ⟨o, x, n, a', ks, c'⟩ := t
      rw [TP.er, TP.mk.injEq] at e
      obtain ⟨rfl, rfl, rfl, _, f1, _⟩ := e
      obtain ⟨k', rfl, rfl⟩ := er_one f1
      exact .splat (ih k' (List.mem_cons_self ..) hk)
  · exact hx ha h
theorem szs_map {h : TP → TP} {l : List TP} (H : ∀ k ∈ l, (h k).sz = k.sz) : szs (l.map h) = szs l := by
 induction l with
 | nil => rfl
 | cons k l ih => rw [List.map_cons, szs, szs, H k (List.mem_cons_self ..), ih fun k hk => H k (List.mem_cons_of_mem _ hk)]
theorem dps_map {h : TP → TP} {l : List TP} (H : ∀ k ∈ l, (h k).dp = k.dp) : dps (l.map h) = dps l := by
 induction l with
 | nil => rfl
 | cons k l ih => rw [List.map_cons, dps, dps, H k (List.mem_cons_self ..), ih fun k hk => H k (List.mem_cons_of_mem _ hk)]
theorem sz_er : ∀ t : TP, t.er.sz = t.sz := TP.ind fun t ih => by rw [er_eq, sz_eq, sz_eq t]; show 1 + szs (ers t.kids) = _; rw [ers_map, szs_map ih]
theorem dp_er : ∀ t : TP, t.er.dp = t.dp := TP.ind fun t ih => by rw [er_eq, dp_eq, dp_eq t]; show 1 + dps (ers t.kids) = _; rw [ers_map, dps_map ih]
theorem sz_rn (f g : List UInt8) : ∀ t : TP, (rn f g t).sz = t.sz := TP.ind fun t ih => by rw [rn_eq, sz_eq, sz_eq t]; show 1 + szs (rns f g t.kids) = _; rw [rns_map, szs_map ih]
theorem dp_rn (f g : List UInt8) : ∀ t : TP, (rn f g t).dp = t.dp := TP.ind fun t ih => by rw [rn_eq, dp_eq, dp_eq t]; show 1 + dps (rns f g t.kids) = _; rw [rns_map, dps_map ih]
theorem rn_er (f g : List UInt8) : ∀ t : TP, rn f g t.er = rn f g t := TP.ind fun t ih => by
 rw [er_eq, rn_eq, rn_eq f g t]
 show TP.mk _ _ _ _ (rns f g (ers t.kids)) _ = _
 congr 1
 rw [rns_map, rns_map, ers_map, List.map_map]
 exact List.map_congr_left fun k hk => ih k hk
theorem hns_flat (l : List TP) : hns l = l.flatMap hn := by
 induction l with
 | nil => rfl
 | cons k l ih => rw [hns, ih]; rfl
theorem flat_congr {α β : Type} {f g : α → List β} {l : List α} (h : ∀ k ∈ l, f k = g k) : l.flatMap f = l.flatMap g := by
 induction l with
 | nil => rfl
 | cons k l ih => rw [List.flatMap_cons, List.flatMap_cons, h k (List.mem_cons_self ..), ih fun k hk => h k (List.mem_cons_of_mem _ hk)]
theorem hn_er : ∀ t : TP, hn t.er = hn t := TP.ind fun t ih => by
 rw [er_eq, hn_eq, hn_eq t]
 show (if own t.op t.name then [t.name] else []) ++ hns (ers t.kids) = _
 rw [hns_flat, hns_flat, ers_map, List.flatMap_map]
 congr 1
 exact flat_congr ih
theorem own_rn {f g : List UInt8} (hf : f ≠ []) (hg : g ≠ []) (o : Int) (x : List UInt8) : own o (rename f g o x) = own o x := by
 by_cases ho : hld o = true
 ·rw [rename_hld ho hf]
  unfold ren
  split
  ·rename_i h
   subst h
   unfold own
   cases x with
   | nil => exact absurd rfl hf
   | cons a b => cases g with
    | nil => exact absurd rfl hg
    | cons c d => rfl
  ·rfl
 ·have ho : hld o = false := by simpa using ho
  rw [rename_no ho]
theorem hn_rn {f g : List UInt8} (hf : f ≠ []) (hg : g ≠ []) : ∀ t : TP, hn (rn f g t) = (hn t).map (ren f g) := TP.ind fun t ih => by
 rw [rn_eq, hn_eq, hn_eq t]
 show (if own t.op (rename f g t.op t.name) then [rename f g t.op t.name] else []) ++ hns (rns f g t.kids) = _
 rw [own_rn hf hg, List.map_append]
 congr 1
 ·by_cases h : own t.op t.name = true
  ·rw [if_pos h, if_pos h]
   have ho : hld t.op = true := by
    unfold own at h
    simp only [Bool.and_eq_true] at h
    exact h.1
   rw [rename_hld ho hf]
   rfl
  ·rw [if_neg h, if_neg h]
   rfl
 ·rw [hns_flat, hns_flat, rns_map, List.flatMap_map, List.map_flatMap]
  exact flat_congr ih
mutual
def bn : TP → List (List UInt8)
 | ⟨o, x, _, _, ks, _⟩ => (if o = 49 then [x] else []) ++ bns ks
termination_by structural x => x
def bns : List TP → List (List UInt8)
 | [] => []
 | k :: ks => bn k ++ bns ks
termination_by structural x => x
end
theorem bns_flat (l : List TP) : bns l = l.flatMap bn := by
 induction l with
 | nil => rfl
 | cons k l ih => rw [bns, ih]; rfl
theorem bn_eq (t : TP) : bn t = (if t.op = 49 then [t.name] else []) ++ bns t.kids := by cases t; rfl
theorem bn_kid {t k : TP} (h : k ∈ t.kids) {x : List UInt8} (hx : x ∈ bn k) : x ∈ bn t := by
 rw [bn_eq, bns_flat]
 exact List.mem_append_right _ (List.mem_flatMap.2 ⟨k, h, hx⟩)
theorem bn_self {t : TP} (h : t.op = 49) : t.name ∈ bn t := by rw [bn_eq, if_pos h]; simp
theorem bn_er : ∀ t : TP, bn t.er = bn t := TP.ind fun t ih => by
 rw [er_eq, bn_eq, bn_eq t]
 show (if t.op = 49 then [t.name] else []) ++ bns (ers t.kids) = _
 rw [bns_flat, bns_flat, ers_map, List.flatMap_map]
 congr 1
 exact flat_congr ih
theorem bn_rn {f g : List UInt8} (hf : f ≠ []) : ∀ t : TP, bn (rn f g t) = (bn t).map (ren f g) := TP.ind fun t ih => by
 rw [rn_eq, bn_eq, bn_eq t]
 show (if t.op = 49 then [rename f g t.op t.name] else []) ++ bns (rns f g t.kids) = _
 rw [List.map_append]
 congr 1
 ·by_cases h : t.op = 49
  ·rw [if_pos h, if_pos h, rename_hld (by rw [h]; rfl) hf]
   rfl
  ·rw [if_neg h, if_neg h]
   rfl
 ·rw [bns_flat, bns_flat, rns_map, List.flatMap_map, List.map_flatMap]
  exact flat_congr ih
theorem bn_hn : ∀ t : TP, ∀ x ∈ bn t, x ∈ hn t := TP.ind fun t ih x hx => by
 rw [bn_eq] at hx
 rw [hn_eq]
 rcases List.mem_append.1 hx with hx | hx
 ·by_cases h : t.op = 49
  ·rw [if_pos h] at hx
   rw [List.mem_singleton.1 hx, h]
   exact List.mem_append_left _ (by simp [own, hld])
  ·rw [if_neg h] at hx
   cases hx
 ·rw [bns_flat] at hx
  obtain ⟨k, hk, hx⟩ := List.mem_flatMap.1 hx
  rw [hns_flat]
  exact List.mem_append_right _ (List.mem_flatMap.2 ⟨k, hk, ih k hk x hx⟩)
theorem V.bindx {r : Ro} {t : TP} (h : V r t) (ha : r ≠ .arg) (ho : t.op = 49) : t.name ≠ [95] := by
 cases h <;> first | (exfalso; dsimp only at ho; omega) | assumption | exact absurd rfl ha
theorem V.bind {r : Ro} {t : TP} (h : V r t) (ho : t.op = 49) : t.name ≠ [95] := by
 by_cases ha : r = .arg
 ·subst ha
  rcases arg_cases h with h | ⟨a, c, k, hk, rfl⟩
  ·exact h.bindx (by intro e; cases e) ho
  ·exact absurd ho (by show ¬ (22 : Int) = 49; decide)
 ·exact h.bindx ha ho
theorem V.bn : ∀ t : TP, ∀ {r : Ro}, V r t → [95] ∉ Tree.bn t := TP.ind fun t ih r h hx => by
 rw [bn_eq] at hx
 rcases List.mem_append.1 hx with hx | hx
 ·by_cases ho : t.op = 49
  ·rw [if_pos ho] at hx
   exact h.bind ho (List.mem_singleton.1 hx).symm
  ·rw [if_neg ho] at hx
   cases hx
 ·rw [bns_flat] at hx
  obtain ⟨k, hk, hxk⟩ := List.mem_flatMap.1 hx
  by_cases hr : r = .top
  ·subst hr
   cases h with
   | top h hu =>
    by_cases ho : k.op = 45
    ·exact ih k hk (hu k hk ho) hxk
    ·exact ih k hk (h k hk ho) hxk
  ·obtain ⟨q, _, hq⟩ := h.kids hr k hk
   exact ih k hk hq hxk
theorem wks_er {l : List TP} (ih : ∀ k ∈ l, ∀ ch nm, wk k.er ch nm = wk k ch nm) : ∀ ch nm, wks (ers l) ch nm = wks l ch nm := by
 induction l with
 | nil => exact fun _ _ => rfl
 | cons k l ihl =>
  intro ch nm
  rw [ers, wks, wks, ih k (List.mem_cons_self ..), ihl fun k hk => ih k (List.mem_cons_of_mem _ hk)]
theorem ers_empty (l : List TP) : (ers l).isEmpty = l.isEmpty := by cases l <;> rfl
theorem wkc_er {l : List TP} (ih : ∀ k ∈ l, ∀ ch nm, wk k.er ch nm = wk k ch nm) : ∀ ch nm, wkc (ers l) ch nm = wkc l ch nm := by
 induction l with
 | nil => exact fun _ _ => rfl
 | cons k l ihl =>
  intro ch nm
  rw [ers, wkc, wkc, ers_empty]
  split
  ·rw [ih k (List.mem_cons_self ..)]
  ·rw [ih k (List.mem_cons_self ..), ihl fun k hk => ih k (List.mem_cons_of_mem _ hk)]
theorem wkr_er {l : List TP} (ih : ∀ k ∈ l, ∀ ch nm, wk k.er ch nm = wk k ch nm) (x : List UInt8) : ∀ ch nm, wkr (ers l) x ch nm = wkr l x ch nm := by
 induction l with
 | nil => exact fun _ _ => rfl
 | cons k l ihl =>
  intro ch nm
  rw [ers, wkr, wkr, ers_empty]
  split
  ·rw [ih k (List.mem_cons_self ..)]
  ·rw [ih k (List.mem_cons_self ..), ihl fun k hk => ih k (List.mem_cons_of_mem _ hk)]
theorem wk_er : ∀ t : TP, ∀ ch nm, wk t.er ch nm = wk t ch nm := TP.ind fun ⟨o, x, n, a, ks, c⟩ ih ch nm => by
 have ih : ∀ k ∈ ks, ∀ ch nm, wk k.er ch nm = wk k ch nm := ih
 rw [TP.er, wk, wk]
 simp only [wks_er ih, wkc_er ih, wkr_er ih]
end Go.Tree
namespace Go.Proofs.YtpikpjlhdkkigaaGreatDoor
open Go.AX Go.RowKit Go.Tree Go.Scan
set_option maxRecDepth 20000
def hldL : List Int := [10, 11, 49, 52, 41, 54]
theorem hldL_eq (o : Int) : hldL.contains o = hld o := by
 rw [Bool.eq_iff_iff, List.contains_iff_mem]
 simp [hldL, hld, or_assoc]
theorem holds_c (t : TP) : ∀ H, SpecH Tryz.prog 27 (pvs [nodeV t]) H (Ret (.bool (hld t.op)) H) := fun H => by
 refine factC (F := fun _ => True) hm Tryz.func27 (by kernel_rfl) rfl rfl ?_ H (fun _ _ => trivial)
 refine wXR ?_
 refine RwN.known (intC hldL) rfl fun rb => ?_
 refine wXR ?_
 refine call1 (ContainsI_c (some ⟨rb, 0, none⟩) hldL 6 t.op (fun _ => rfl) (by decide) _ (fun w hw => hw.2.1)) ?_
 refine wXR ?_
 rw [hldL_eq]
structure ClD where
 pb : Nat
 pf : Nat
 ph : Nat
 pt : Nat
 f : List UInt8
 g : List UInt8
def clE (A : World → Prop) (c : ClD) (b h : Bool) : List Ent := [.fact A, .app 4 1 [.bool b] (some ⟨c.pb, 0, none⟩) 1 1, .app 9 1 [.string (bs c.f)] (some ⟨c.pf, 0, none⟩) 1 1, .app 4 1 [.bool h] (some ⟨c.ph, 0, none⟩) 1 1, .app 9 1 [.string (bs c.g)] (some ⟨c.pt, 0, none⟩) 1 1]
def clP (c : ClD) : List Value := [.pointer (some ⟨c.pb, 0, none⟩), .pointer (some ⟨c.pf, 0, none⟩), .pointer (some ⟨c.ph, 0, none⟩), .pointer (some ⟨c.pt, 0, none⟩)]
set_option maxHeartbeats 4000000 in
theorem closure_c (t : TP) (A : World → Prop) (c : ClD) (b h : Bool) : SpecH Tryz.prog 26 (pvs ([nodeV t] ++ clP c)) (clE A c b h)
  (RetG (ι := Bool × Bool) (fun i => (h = false → (hld t.op = true → t.name ≠ c.g) → i.2 = false) ∧ (b = false → (t.op = 49 → t.name ≠ c.f) → i.1 = false)) (fun _ => .tuple #[]) fun i => clE A c i.1 i.2) := by
 refine ownC hm Tryz.func26 (by kernel_rfl) rfl rfl (fun _ _ => okHB_eq rfl) (fun _ _ => Nat.le_of_ble_eq_true rfl) ?_
 refine wX ?_
 refine LdN.one (a := some ⟨c.pb, 0, none⟩) (q := 0) (.bool b) rfl (fun w hw => hw.2.1) rfl ?_
 cases b with
 | true =>
  refine wX ?_
  refine EffW.appTo (i := 1) (q := 0) (ys := [_]) [.bool true] 1 rfl rfl rfl rfl rfl rfl rfl (Nat.le_of_ble_eq_true rfl) rfl rfl ?_
  refine wX ?_
  refine LdN.one (a := some ⟨c.ph, 0, none⟩) (q := 0) (.bool h) rfl (fun w hw => hw.2.2.2.1) rfl ?_
  cases h with
  | true =>
   refine wX ?_
   refine EffW.appTo (i := 3) (q := 0) (ys := [_]) [.bool true] 1 rfl rfl rfl rfl rfl rfl rfl (Nat.le_of_ble_eq_true rfl) rfl rfl ?_
   refine wX ?_
   refine ⟨(true, true), ⟨fun h0 hno => ?_, (fun hb => by cases hb)⟩, rfl, ⟨wkE_refl _, wkE_refl _, wkE_refl _, wkE_refl _, wkE_refl _, wkH_nil _⟩⟩
   cases h0
  | false =>
   refine wX ?_
   refine call1 (holds_c t _) ?_
   cases ho : hld t.op with
   | false =>
    refine wX ?_
    refine EffW.appTo (i := 3) (q := 0) (ys := [_]) [.bool false] 1 rfl rfl rfl rfl rfl rfl rfl (Nat.le_of_ble_eq_true rfl) rfl rfl ?_
    refine wX ?_
    refine ⟨(true, false), ⟨fun h0 hno => ?_, (fun hb => by cases hb)⟩, rfl, ⟨wkE_refl _, wkE_refl _, wkE_refl _, wkE_refl _, wkE_refl _, wkH_nil _⟩⟩
    rfl
   | true =>
    refine wX ?_
    refine LdN.one (a := some ⟨c.pt, 0, none⟩) (q := 0) (.string (bs c.g)) rfl (fun w hw => hw.2.2.2.2.1) rfl ?_
    refine wX ?_
    refine EffW.appTo (i := 3) (q := 0) (ys := [_]) [.bool ((bs t.name).data.toList == (bs c.g).data.toList)] 1 rfl rfl rfl rfl rfl rfl rfl (Nat.le_of_ble_eq_true rfl) rfl rfl ?_
    refine wX ?_
    refine ⟨(true, ((bs t.name).data.toList == (bs c.g).data.toList)), ⟨fun h0 hno => ?_, (fun hb => by cases hb)⟩, rfl, ⟨wkE_refl _, wkE_refl _, wkE_refl _, wkE_refl _, wkE_refl _, wkH_nil _⟩⟩
    exact Bool.eq_false_iff.2 fun e => hno rfl ((bs_ne e).1 rfl)
 | false =>
  refine wX ?_
  refine brd_eq (fun h1 => ?_) (fun h1 => ?_)
  ·refine wX ?_
   refine LdN.one (a := some ⟨c.pf, 0, none⟩) (q := 0) (.string (bs c.f)) rfl (fun w hw => hw.2.2.1) rfl ?_
   refine wX ?_
   refine EffW.appTo (i := 1) (q := 0) (ys := [_]) [.bool ((bs t.name).data.toList == (bs c.f).data.toList)] 1 rfl rfl rfl rfl rfl rfl rfl (Nat.le_of_ble_eq_true rfl) rfl rfl ?_
   refine wX ?_
   refine LdN.one (a := some ⟨c.ph, 0, none⟩) (q := 0) (.bool h) rfl (fun w hw => hw.2.2.2.1) rfl ?_
   cases h with
   | true =>
    refine wX ?_
    refine EffW.appTo (i := 3) (q := 0) (ys := [_]) [.bool true] 1 rfl rfl rfl rfl rfl rfl rfl (Nat.le_of_ble_eq_true rfl) rfl rfl ?_
    refine wX ?_
    refine ⟨(((bs t.name).data.toList == (bs c.f).data.toList), true), ⟨fun h0 hno => ?_, (fun _ hne => Bool.eq_false_iff.2 fun e => hne h1 ((bs_ne e).1 rfl))⟩, rfl, ⟨wkE_refl _, wkE_refl _, wkE_refl _, wkE_refl _, wkE_refl _, wkH_nil _⟩⟩
    cases h0
   | false =>
    refine wX ?_
    refine call1 (holds_c t _) ?_
    cases ho : hld t.op with
    | false =>
     refine wX ?_
     refine EffW.appTo (i := 3) (q := 0) (ys := [_]) [.bool false] 1 rfl rfl rfl rfl rfl rfl rfl (Nat.le_of_ble_eq_true rfl) rfl rfl ?_
     refine wX ?_
     refine ⟨(((bs t.name).data.toList == (bs c.f).data.toList), false), ⟨fun h0 hno => ?_, (fun _ hne => Bool.eq_false_iff.2 fun e => hne h1 ((bs_ne e).1 rfl))⟩, rfl, ⟨wkE_refl _, wkE_refl _, wkE_refl _, wkE_refl _, wkE_refl _, wkH_nil _⟩⟩
     rfl
    | true =>
     refine wX ?_
     refine LdN.one (a := some ⟨c.pt, 0, none⟩) (q := 0) (.string (bs c.g)) rfl (fun w hw => hw.2.2.2.2.1) rfl ?_
     refine wX ?_
     refine EffW.appTo (i := 3) (q := 0) (ys := [_]) [.bool ((bs t.name).data.toList == (bs c.g).data.toList)] 1 rfl rfl rfl rfl rfl rfl rfl (Nat.le_of_ble_eq_true rfl) rfl rfl ?_
     refine wX ?_
     refine ⟨(((bs t.name).data.toList == (bs c.f).data.toList), ((bs t.name).data.toList == (bs c.g).data.toList)), ⟨fun h0 hno => ?_, (fun _ hne => Bool.eq_false_iff.2 fun e => hne h1 ((bs_ne e).1 rfl))⟩, rfl, ⟨wkE_refl _, wkE_refl _, wkE_refl _, wkE_refl _, wkE_refl _, wkH_nil _⟩⟩
     exact Bool.eq_false_iff.2 fun e => hno rfl ((bs_ne e).1 rfl)
  ·refine wX ?_
   refine EffW.appTo (i := 1) (q := 0) (ys := [_]) [.bool false] 1 rfl rfl rfl rfl rfl rfl rfl (Nat.le_of_ble_eq_true rfl) rfl rfl ?_
   refine wX ?_
   refine LdN.one (a := some ⟨c.ph, 0, none⟩) (q := 0) (.bool h) rfl (fun w hw => hw.2.2.2.1) rfl ?_
   cases h with
   | true =>
    refine wX ?_
    refine EffW.appTo (i := 3) (q := 0) (ys := [_]) [.bool true] 1 rfl rfl rfl rfl rfl rfl rfl (Nat.le_of_ble_eq_true rfl) rfl rfl ?_
    refine wX ?_
    refine ⟨(false, true), ⟨fun h0 hno => ?_, (fun _ _ => rfl)⟩, rfl, ⟨wkE_refl _, wkE_refl _, wkE_refl _, wkE_refl _, wkE_refl _, wkH_nil _⟩⟩
    cases h0
   | false =>
    refine wX ?_
    refine call1 (holds_c t _) ?_
    cases ho : hld t.op with
    | false =>
     refine wX ?_
     refine EffW.appTo (i := 3) (q := 0) (ys := [_]) [.bool false] 1 rfl rfl rfl rfl rfl rfl rfl (Nat.le_of_ble_eq_true rfl) rfl rfl ?_
     refine wX ?_
     refine ⟨(false, false), ⟨fun h0 hno => ?_, (fun _ _ => rfl)⟩, rfl, ⟨wkE_refl _, wkE_refl _, wkE_refl _, wkE_refl _, wkE_refl _, wkH_nil _⟩⟩
     rfl
    | true =>
     refine wX ?_
     refine LdN.one (a := some ⟨c.pt, 0, none⟩) (q := 0) (.string (bs c.g)) rfl (fun w hw => hw.2.2.2.2.1) rfl ?_
     refine wX ?_
     refine EffW.appTo (i := 3) (q := 0) (ys := [_]) [.bool ((bs t.name).data.toList == (bs c.g).data.toList)] 1 rfl rfl rfl rfl rfl rfl rfl (Nat.le_of_ble_eq_true rfl) rfl rfl ?_
     refine wX ?_
     refine ⟨(false, ((bs t.name).data.toList == (bs c.g).data.toList)), ⟨fun h0 hno => ?_, (fun _ _ => rfl)⟩, rfl, ⟨wkE_refl _, wkE_refl _, wkE_refl _, wkE_refl _, wkE_refl _, wkH_nil _⟩⟩
     exact Bool.eq_false_iff.2 fun e => hno rfl ((bs_ne e).1 rfl)
def VisC (t : TP) : Prop := TreeK t → ∀ (A : World → Prop) (_ : ∀ w, A w → TreeF w t) (c : ClD) (b h : Bool), SpecH Tryz.prog 25 (pvs [nodeV t, .func (.func 26) #[] (clP c).toArray]) (clE A c b h)
  (RetG (ι := Bool × Bool) (fun i => (h = false → c.g ≠ [] → c.g ∉ hn t → i.2 = false) ∧ (b = false → c.f ∉ bn t → i.1 = false)) (fun _ => .tuple #[]) fun i => clE A c i.1 i.2)
set_option maxHeartbeats 4000000 in
theorem visit_c : ∀ t, VisC t := by
 refine TP.ind fun t ih ht A hA c b h => ?_
 refine ownC hm Tryz.func25 (by kernel_rfl) rfl rfl (fun _ _ => okHB_eq rfl) (fun _ _ => Nat.le_of_ble_eq_true rfl) ?_
 have hl := ht.len
 have hself : c.g ≠ [] → c.g ∉ hn t → hld t.op = true → t.name ≠ c.g := fun h1 h2 h3 e => h2 (by rw [← e]; exact hn_self h3 (by rw [e]; exact h1))
 refine wX ?_
 refine callG (closure_c t A c b h) [0, 1, 2, 3, 4] rfl ⟨rfl, rfl, rfl, rfl, rfl, trivial⟩ rfl fun i hi => ?_
 obtain ⟨b1, h1⟩ := i
 obtain ⟨hi, hib⟩ : (h = false → (hld t.op = true → t.name ≠ c.g) → h1 = false) ∧ (b = false → (t.op = 49 → t.name ≠ c.f) → b1 = false) := hi
 refine wX ?_
 refine LoopN.intro (Nat × Bool × Bool) (fun i => i.1 ≤ t.kids.length ∧ ((h = false → c.g ≠ [] → c.g ∉ hn t → i.2.2 = false) ∧ (b = false → c.f ∉ bn t → i.2.1 = false)))
  (fun ⟨i, _, _⟩ => mkS Tryz.f25.ntmps 0 [(1, .c (.v (.func (.func 26) #[] (clP c).toArray))), (2, .c (.lp 5 0)), (10, .c (.v (.slice t.a t.kids.length t.cap))), (11, .c (.v (.int .i64 (t.kids.length : Int)))), (12, .c (.v (.int .i64 (i : Int))))])
  (fun ⟨_, b', h'⟩ => clE A c b' h' ++ [.blk 25 (cellsV (nodeV t))]) (fun i => t.kids.length - i.1) [] rfl (fun _ => rfl) (fun _ => rfl) (fun _ _ => okHB_eq rfl)
  ⟨⟨0, b1, h1⟩, ⟨Nat.zero_le _, ⟨fun a1 a2 a3 => hi a1 (hself a2 a3), fun a1 a2 => hib a1 fun a3 a4 => a2 (by rw [← a4]; exact bn_self a3)⟩⟩, ?_, wkH_refl _⟩ ?_
 ·exact wKK
 rintro ⟨i, b2, h2⟩ ⟨hil, hinv, hinb⟩
 have hinb : b = false → c.f ∉ bn t → b2 = false := hinb
 have hinv : h = false → c.g ≠ [] → c.g ∉ hn t → h2 = false := hinv
 have hil : i ≤ t.kids.length := hil
 refine wX ?_
 refine brd_dec (fun h3 => ?_) (fun h3 => ?_)
 ·obtain ⟨k, hk⟩ : ∃ k, t.kids[i]? = some k := ⟨_, List.getElem?_eq_getElem (by omega)⟩
  have hsa := kid_some ht hk
  have hkm := List.mem_of_getElem? hk
  refine wX ?_
  refine Nd.mk ⟨hsa, by omega, by omega⟩ ?_
  refine wX ?_
  refine LdN.agg (nodeC k) rfl (fun w hw => (hA w hw.1).row) rfl (fun j hj => by rw [Int.toNat_natCast]; exact nodesC_get t.kids i j hj hk) ?_
  refine wX ?_
  refine callG (ih k hkm (ht.kid hkm) A (fun w hw => (hA w hw).kid hkm) c b2 h2) [0, 1, 2, 3, 4] rfl ⟨rfl, rfl, rfl, rfl, rfl, trivial⟩ rfl fun j hj => ?_
  obtain ⟨b4, h4⟩ := j
  obtain ⟨hj, hjb⟩ : (h2 = false → c.g ≠ [] → c.g ∉ hn k → h4 = false) ∧ (b2 = false → c.f ∉ bn k → b4 = false) := hj
  refine wX ?_
  refine ⟨⟨i + 1, b4, h4⟩, ⟨by show i + 1 ≤ _; omega, ⟨fun a1 a2 a3 => hj (hinv a1 a2 a3) a2 fun hx => a3 (hn_kid hkm hx), fun a1 a2 => hjb (hinb a1 a2) fun hx => a2 (bn_kid hkm hx)⟩⟩, by show t.kids.length - (i + 1) < t.kids.length - i; omega, ?_, ⟨wkE_refl _, wkE_refl _, wkE_refl _, wkE_refl _, wkE_refl _, wkE_refl _, wkH_nil _⟩⟩
  (repeat' (first | exact trivial | refine And.intro (by with_reducible rfl) ?_ | (with_reducible exact wkC_refl _) | (with_reducible exact wkCs_refl _) | refine And.intro ?_ ?_))
  all_goals first | rfl | exact av_int (by omega) | exact av_int (by rw [wrap_i64 (by omega)]; omega)
 ·refine wX ?_
  refine ⟨(b2, h2), ⟨hinv, hinb⟩, rfl, ⟨wkE_refl _, wkE_refl _, wkE_refl _, wkE_refl _, wkE_refl _, wkH_nil _⟩⟩
structure RnI where
 t : TP
 F : World → Prop
def RnInv (f g : List UInt8) (t : TP) (A : World → Prop) (i : RnI) : Prop := i.t.er = rn f g t ∧ TreeK i.t ∧ ∀ w, i.F w → A w ∧ TreeF w i.t
theorem sealZ (F0 : World → Prop) (R : List Ent) : TurnS (.fact F0 :: R) (.fact (fun w => F0 w ∧ Facts R w) :: R.map fun _ => .dead) :=
 turnS ⟨.inr (.inr ⟨_, rfl, fun _ hw => ⟨hw.1, facts_rest R _ rfl hw.2⟩⟩), sealed_map _ R⟩
structure RlI where
 l : List TP
 ob : Option Nat
 cap : Nat
 F : World → Prop
def RenC (t : TP) : Prop := TreeK t → ∀ (f g : List UInt8) (_ : g.length ≤ 1048576) (A : World → Prop) (_ : ∀ w, A w → TreeF w t), SpecH Tryz.prog 29 (pvs [nodeV t, .string (bs f), .string (bs g)]) [.fact A] (RetG (ι := RnI) (RnInv f g t A) (fun i => nodeV i.t) fun i => [.fact i.F])
set_option maxHeartbeats 4000000 in
theorem renamed_c : ∀ t, RenC t := by
 refine TP.ind fun t ih ht f g hg A hA => ?_
 refine ownT hm Tryz.func29 (by kernel_rfl) rfl rfl (fun _ _ => okHB_eq rfl) (fun _ _ => Nat.le_of_ble_eq_true rfl) ?_
 have hl := ht.len
 have hstr := ht.str
 refine wX ?_
 refine LoopN.introS RlI (fun i => i.l.length ≤ t.kids.length ∧ ers i.l = (rns f g t.kids).take i.l.length ∧ (∀ u ∈ i.l, TreeK u) ∧ (i.ob = none → i.l = []) ∧ i.l.length ≤ i.cap ∧ ∀ w, i.F w → A w ∧ ∀ u ∈ i.l, TreeF w u)
  (fun ⟨l, ob, cap, _⟩ => mkS Tryz.f29.ntmps 0 [(1, .c (.v (.string (bs f)))), (2, .c (.v (.string (bs g)))), (3, .c (.lp 1 0)), (6, .c (.lp 2 0)), (7, .c (.v (.slice (at0 ob) l.length cap))), (11, .c (.v (.slice t.a t.kids.length t.cap))), (12, .c (.v (.int .i64 (t.kids.length : Int)))), (13, .c (.v (.int .i64 (l.length : Int))))])
  (fun ⟨l, ob, cap, F⟩ => [.fact F, .blk 25 (cellsV (nodeV t)), .blk 25 [.v (.int .i64 0), .v (.string (bs [])), .v (.int .i64 0), .v (.slice none 0 0)], rowN4 l ob cap])
  (fun i => t.kids.length - i.l.length) [.app ndT 4 [] none 0 0] rfl (fun _ => rfl) (fun _ => rfl) (fun _ _ => okHB_eq rfl)
  ⟨⟨[], none, 0, A⟩, ⟨Nat.zero_le _, rfl, (fun _ h => by cases h), fun _ => rfl, Nat.le_refl _, fun w hw => ⟨hw, fun _ h => by cases h⟩⟩, ?_, _, turn_refl _, ⟨wkE_refl _, wkE_refl _, wkE_refl _, wkE_refl _, wkH_nil _⟩⟩ ?_
 ·exact wKK
 rintro ⟨l, ob, cap, F⟩ ⟨hi, her, hK, hnil, hcap, hF⟩
 have hi : l.length ≤ t.kids.length := hi
 have her : ers l = (rns f g t.kids).take l.length := her
 have hK : ∀ u ∈ l, TreeK u := hK
 have hnil : ob = none → l = [] := hnil
 have hcap : l.length ≤ cap := hcap
 have hF : ∀ w, F w → A w ∧ ∀ u ∈ l, TreeF w u := hF
 refine wX ?_
 refine brd_dec (fun h3 => ?_) (fun h3 => ?_)
 ·obtain ⟨k, hk⟩ : ∃ k, t.kids[l.length]? = some k := ⟨_, List.getElem?_eq_getElem (by omega)⟩
  have hsa := kid_some ht hk
  have hkm := List.mem_of_getElem? hk
  refine wX ?_
  refine Nd.mk ⟨hsa, by omega, by omega⟩ ?_
  refine wX ?_
  refine LdN.agg (nodeC k) rfl (fun w hw => (hA w (hF w hw.1).1).row) rfl (fun j hj => by rw [Int.toNat_natCast]; exact nodesC_get t.kids l.length j hj hk) ?_
  refine wX ?_
  refine callG (ih k hkm (ht.kid hkm) f g hg F (fun w hw => (hA w (hF w hw).1).kid hkm)) [0] rfl ⟨rfl, trivial⟩ rfl fun j hj => ?_
  obtain ⟨u, F2⟩ := j
  obtain ⟨u1, u2, u3⟩ := hj
  have u1 : u.er = rn f g k := u1
  have u2 : TreeK u := u2
  have u3 : ∀ w, F2 w → F w ∧ TreeF w u := u3
  refine wX ?_
  try refine Nd.mk ⟨Nat.le_refl 1, rfl, rfl⟩ ?_
  (conv => whnf)
  refine AppN.grow 3 (nodesC l) (nodeC u) rfl rfl ⟨Nat.le_refl 1, ⟨by show (l.length + 1) * 56 ≤ _; omega, by show l.length + 1 < _; omega⟩, by decide⟩ fun b8 c8 g18 g28 => ?_
  refine wX ?_
  have e18 : nodesC l ++ nodeC u = nodesC (l ++ [u]) := by rw [nodesC_one, nodesC_app]
  have e28 : l.length + 1 = (l ++ [u]).length := by simp
  rw [e18, e28]
  refine ⟨⟨l ++ [u], some b8, c8, F2⟩, ⟨by show (l ++ [u]).length ≤ _; rw [← e28]; omega, ?_, fun v hv => ?_, (fun h => by cases h), by show (l ++ [u]).length ≤ c8; rw [← e28]; exact g18, fun w hw => ⟨(hF w (u3 w hw).1).1, fun v hv => ?_⟩⟩, by show t.kids.length - (l ++ [u]).length < t.kids.length - l.length; rw [← e28]; omega, ?_, _, turn_refl _, ⟨wkE_refl _, wkE_refl _, wkE_refl _, wkE_refl _, wkH_nil _⟩⟩
  ·show ers (l ++ [u]) = (rns f g t.kids).take (l ++ [u]).length
   rw [← e28, List.take_add_one, ers_map, List.map_append, ← ers_map, her, rns_map, List.getElem?_map, hk]
   simp [u1]
  ·rcases List.mem_append.1 hv with hv | hv
   ·exact hK v hv
   ·rw [List.mem_singleton.1 hv]; exact u2
  ·rcases List.mem_append.1 hv with hv | hv
   ·exact (hF w (u3 w hw).1).2 v hv
   ·rw [List.mem_singleton.1 hv]; exact (u3 w hw).2
  ·(repeat' (first | exact trivial | refine And.intro (by with_reducible rfl) ?_ | (with_reducible exact wkC_refl _) | (with_reducible exact wkCs_refl _) | refine And.intro ?_ ?_))
   all_goals first | rfl | exact av_int (by omega) | exact av_int (by rw [wrap_i64 (by omega)]; omega)
 ·have hll : l.length = t.kids.length := by omega
  have etk : (rns f g t.kids).take l.length = rns f g t.kids := List.take_of_length_le (by rw [rns_len]; omega)
  rw [etk] at her
  have hrow : RowK (at0 ob) cap l := rowK hnil hcap
  refine wX ?_
  refine call1 (holds_c ⟨t.op, t.name, t.n, at0 ob, l, cap⟩ _) ?_
  cases ho : hld t.op with
  | false =>
   refine wX ?_
   have htk : TreeK ⟨t.op, t.name, t.n, at0 ob, l, cap⟩ := treeK hrow (by omega) hstr hK
   refine ⟨_, sealZ _ _, ⟨⟨t.op, t.name, t.n, at0 ob, l, cap⟩, _⟩, ⟨?_, htk, fun w hw => ⟨(hF w hw.1).1, treeF htk hw.2.1 rfl (hF w hw.1).2⟩⟩, rfl, ⟨wkE_refl _, wkH_nil _⟩⟩
   have hrn : rename f g t.op t.name = t.name := (rename_no ho)
   rw [er_eq, rn_eq, hrn]
   show TP.mk t.op (t.name) t.n none (ers l) 0 = _
   rw [her]
  | true =>
   refine wX ?_
   refine brd_intro (fun e => ?_) (fun e => ?_)
   ·have hnf : t.name = f := (bs_ne e).1 rfl
    refine wX ?_
    refine brd_intro (fun e2 => ?_) (fun e2 => ?_)
    ·have hf0 : f ≠ [] := fun h => by
      have e3 : (!((bs f).data.toList == ((⟨#[]⟩ : ByteArray)).data.toList)) = true := e2
      rw [h] at e3
      exact absurd e3 (by decide)
     refine wX ?_
     have htk : TreeK ⟨t.op, g, t.n, at0 ob, l, cap⟩ := treeK hrow (by omega) hg hK
     refine ⟨_, sealZ _ _, ⟨⟨t.op, g, t.n, at0 ob, l, cap⟩, _⟩, ⟨?_, htk, fun w hw => ⟨(hF w hw.1).1, treeF htk hw.2.1 rfl (hF w hw.1).2⟩⟩, rfl, ⟨wkE_refl _, wkH_nil _⟩⟩
     have hrn : rename f g t.op t.name = g := (by rw [rename_hld ho hf0, ren, if_pos hnf])
     rw [er_eq, rn_eq, hrn]
     show TP.mk t.op (g) t.n none (ers l) 0 = _
     rw [her]
    ·have hf0 : f = [] := by
      have e3 : (!((bs f).data.toList == (bs []).data.toList)) = false := e2
      rw [Bool.not_eq_false'] at e3
      exact (bs_ne e3).1 rfl
     refine wX ?_
     have htk : TreeK ⟨t.op, t.name, t.n, at0 ob, l, cap⟩ := treeK hrow (by omega) hstr hK
     refine ⟨_, sealZ _ _, ⟨⟨t.op, t.name, t.n, at0 ob, l, cap⟩, _⟩, ⟨?_, htk, fun w hw => ⟨(hF w hw.1).1, treeF htk hw.2.1 rfl (hF w hw.1).2⟩⟩, rfl, ⟨wkE_refl _, wkH_nil _⟩⟩
     have hrn : rename f g t.op t.name = t.name := (by unfold rename; rw [hf0]; simp)
     rw [er_eq, rn_eq, hrn]
     show TP.mk t.op (t.name) t.n none (ers l) 0 = _
     rw [her]
   ·have hnf : ¬ t.name = f := fun h => by cases (bs_ne e).2 h
    refine wX ?_
    have htk : TreeK ⟨t.op, t.name, t.n, at0 ob, l, cap⟩ := treeK hrow (by omega) hstr hK
    refine ⟨_, sealZ _ _, ⟨⟨t.op, t.name, t.n, at0 ob, l, cap⟩, _⟩, ⟨?_, htk, fun w hw => ⟨(hF w hw.1).1, treeF htk hw.2.1 rfl (hF w hw.1).2⟩⟩, rfl, ⟨wkE_refl _, wkH_nil _⟩⟩
    have hrn : rename f g t.op t.name = t.name := (by unfold rename; simp [hnf])
    rw [er_eq, rn_eq, hrn]
    show TP.mk t.op (t.name) t.n none (ers l) 0 = _
    rw [her]
structure RenOk (t : TP) (f g : List UInt8) : Prop where
 tk : TreeK t
 v : V .top t
 chk : chkV t = 0
 lf : f.length ≤ 1048576
 lg : g.length ≤ 1048576
 lo : loB g = true
 ns : g = [95] → f ∉ bn t
 no : g ∉ hn t
def RenR (t : TP) (f g : List UInt8) (v : Value) (G : World → Prop) : Prop := ∃ u, v = .tuple #[nodeV u, .int .i64 0] ∧ u.er = rn f g t ∧ TreeK u ∧ ∀ w, G w → TreeF w u
set_option maxHeartbeats 4000000 in
theorem Rename_c (t : TP) (f g : List UInt8) (h : RenOk t f g) : SpecF Tryz.prog 12 [nodeV t, .string (bs f), .string (bs g)] (TrF t) (RenR t f g) := by
 refine specF hm Tryz.func12 (by kernel_rfl) rfl rfl ?_
 have hA : ∀ w, TrF t w → ScanF w ∧ TreeF w t := fun w h => h
 refine wXB ?_
 refine BoxN.own ?_
 refine wXB ?_
 refine BoxN.known [.string (bs f)] rfl fun pf => ?_
 refine wXB ?_
 refine BoxN.known [.string (bs g)] rfl fun pt => ?_
 refine wXB ?_
 refine BoxN.own ?_
 refine wXB ?_
 refine call1 (Check_c t h.tk (fun _ => h.v) _ (fun w hw => hA w hw.1)) ?_
 rw [h.chk]
 refine wXB ?_
 refine BoxN.known [.bool false] rfl fun pb => ?_
 refine wXB ?_
 refine BoxN.known [.bool false] rfl fun ph => ?_
 refine wX ?_
 refine EffW.appTo (i := 5) (q := 0) (ys := [_]) [.bool false] 1 rfl rfl rfl rfl rfl rfl rfl (Nat.le_of_ble_eq_true rfl) rfl rfl ?_
 refine wX ?_
 refine EffW.appTo (i := 6) (q := 0) (ys := [_]) [.bool false] 1 rfl rfl rfl rfl rfl rfl rfl (Nat.le_of_ble_eq_true rfl) rfl rfl ?_
 refine wX ?_
 refine SpecH.args (args' := pvs [nodeV t, .func (.func 26) #[] (clP ⟨pb, pf, ph, pt, f, g⟩).toArray]) (by simp [pvs, opvs, opv, nth, plainEv, clP]; try rfl) ?_
 refine callG (visit_c t h.tk (TrF t) (fun w hw => (hA w hw).2) ⟨pb, pf, ph, pt, f, g⟩ false false) [0, 5, 2, 6, 3] rfl ⟨rfl, rfl, rfl, rfl, rfl, trivial⟩ rfl fun i hi => ?_
 obtain ⟨b1, h1⟩ := i
 obtain ⟨hi, hb⟩ : (false = false → g ≠ [] → g ∉ hn t → h1 = false) ∧ (false = false → f ∉ bn t → b1 = false) := hi
 have hi : h1 = false := hi rfl (lo_ne h.lo) h.no
 subst hi
 have hlen := h.lg
 refine wX ?_
 refine LdN.one (a := some ⟨pt, 0, none⟩) (q := 0) (.string (bs g)) rfl (fun w hw => hw.2.2.1) rfl ?_
 refine wX ?_
 refine call1 (isLocal_c g h.lg h.lo _ (fun w hw => (hA w hw.1).1)) ?_
 refine wX ?_
 refine LdN.one (a := some ⟨ph, 0, none⟩) (q := 0) (.bool false) rfl (fun w hw => hw.2.2.2.2.1) rfl ?_
 refine wX ?_
 refine LdN.one (a := some ⟨pt, 0, none⟩) (q := 0) (.string (bs g)) rfl (fun w hw => hw.2.2.1) rfl ?_
 refine wX ?_
 refine brd_intro (fun e => ?_) (fun e => ?_)
 ·have hb1 : b1 = false := hb rfl (h.ns ((bs_ne (y := [95]) e).1 rfl))
  subst hb1
  refine wX ?_
  refine LdN.one (a := some ⟨pb, 0, none⟩) (q := 0) (.bool false) rfl (fun w hw => hw.2.2.2.1) rfl ?_
  refine wX ?_
  refine LdN.one (a := some ⟨pf, 0, none⟩) (q := 0) (.string (bs f)) rfl (fun w hw => hw.2.1) rfl ?_
  refine wX ?_
  refine LdN.one (a := some ⟨pt, 0, none⟩) (q := 0) (.string (bs g)) rfl (fun w hw => hw.2.2.1) rfl ?_
  refine wX ?_
  refine callG (renamed_c t h.tk f g h.lg (TrF t) (fun w hw => (hA w hw).2)) [0] rfl ⟨rfl, trivial⟩ rfl fun j hj => ?_
  obtain ⟨u, F2⟩ := j
  refine wX ?_
  obtain ⟨u1, u2, u3⟩ := hj
  refine fin_p (fun w => TreeF w u) ⟨u, rfl, u1, u2, fun _ h => h⟩ fun w hw => (u3 w hw.1).2
 ·refine wX ?_
  refine LdN.one (a := some ⟨pf, 0, none⟩) (q := 0) (.string (bs f)) rfl (fun w hw => hw.2.1) rfl ?_
  refine wX ?_
  refine LdN.one (a := some ⟨pt, 0, none⟩) (q := 0) (.string (bs g)) rfl (fun w hw => hw.2.2.1) rfl ?_
  refine wX ?_
  refine callG (renamed_c t h.tk f g h.lg (TrF t) (fun w hw => (hA w hw).2)) [0] rfl ⟨rfl, trivial⟩ rfl fun j hj => ?_
  obtain ⟨u, F2⟩ := j
  refine wX ?_
  obtain ⟨u1, u2, u3⟩ := hj
  refine fin_p (fun w => TreeF w u) ⟨u, rfl, u1, u2, fun _ h => h⟩ fun w hw => (u3 w hw.1).2
end Go.Proofs.YtpikpjlhdkkigaaGreatDoor
namespace Go.Proofs.YtpikpjlhdkkigaaGreatDoor
open Go.AX Go.RowKit Go.Tree
set_option maxRecDepth 20000
noncomputable def sameT (t u : TP) : Bool := @decide _ (Classical.propDecidable (t.er = u.er))
theorem sameT_iff (t u : TP) : sameT t u = true ↔ t.er = u.er := @decide_eq_true_iff _ (Classical.propDecidable _)
theorem sameT_no {t u : TP} (h : ¬ t.er = u.er) : sameT t u = false := by rw [Bool.eq_false_iff]; exact fun h2 => h ((sameT_iff t u).1 h2)
theorem er_op {t u : TP} (h : t.er = u.er) : t.op = u.op ∧ t.name = u.name ∧ t.n = u.n ∧ ers t.kids = ers u.kids := by
 rw [er_eq, er_eq u] at h
 simp only [TP.mk.injEq] at h
 exact ⟨h.1, h.2.1, h.2.2.1, h.2.2.2.2.1⟩
theorem er_of {t u : TP} (h1 : t.op = u.op) (h2 : t.name = u.name) (h3 : t.n = u.n) (h4 : ers t.kids = ers u.kids) : t.er = u.er := by rw [er_eq, er_eq u, h1, h2, h3, h4]
def SameC (g : Nat) (t : TP) : Prop := TreeK t → ∀ u, TreeK u → ∀ H, (∀ w, Facts H w → TreeF w t ∧ TreeF w u) → SpecH Tryz.prog g (pvs [nodeV t, nodeV u]) H (Ret (.bool (sameT t u)) H)
theorem RSame_c : ∀ t, SameC 13 t := by
 refine TP.ind fun t ih ht u hu => ?_
 refine factC hm Tryz.func13 (by kernel_rfl) rfl rfl ?_
 have hl := ht.len
 refine wX ?_
 refine brd_ne (fun h1 => ?_) (fun h1 => ?_)
 ·refine wX ?_
  rw [sameT_no fun h => h1 (er_op h).1]
 refine wX ?_
 refine brd_intro (fun h2 => ?_) (fun h2 => ?_)
 ·have h2' : ¬ t.name = u.name := fun h => by
   have h3 : (!(t.name == u.name)) = true := h2
   rw [h] at h3
   simp at h3
  refine wX ?_
  rw [sameT_no fun h => h2' (er_op h).2.1]
 have h2' : t.name = u.name := by
  have h3 : (!(t.name == u.name)) = false := h2
  simpa using h3
 refine wX ?_
 refine brd_ne (fun h3 => ?_) (fun h3 => ?_)
 ·refine wX ?_
  rw [sameT_no fun h => h3 (er_op h).2.2.1]
 refine wX ?_
 refine brd_ne (fun h4 => ?_) (fun h4 => ?_)
 ·refine wX ?_
  rw [sameT_no fun h => h4 (by have := congrArg List.length (er_op h).2.2.2; simp [ers_map] at this; omega)]
 have hlm : t.kids.length = u.kids.length := by omega
 refine wX ?_
 refine loopS Nat (fun i => i ≤ t.kids.length ∧ (ers t.kids).take i = (ers u.kids).take i) (fun i => mkS Tryz.f13.ntmps 0 [(2, .c (.lp 1 0)), (3, .c (.lp 2 0)), (4, .c (.v (.bool false))), (5, .c (.v (.int .i64 (i : Int))))]) (fun i => t.kids.length - i) rfl (fun _ => rfl) 0 ⟨Nat.zero_le _, rfl⟩ ?_ ?_
 ·exact wKK
 intro i ⟨hi, heq⟩
 refine wX ?_
 refine brd_dec (fun h5 => ?_) (fun h5 => ?_)
 ·obtain ⟨x, hx⟩ : ∃ x, t.kids[i]? = some x := ⟨_, List.getElem?_eq_getElem (by omega)⟩
  obtain ⟨y, hy⟩ : ∃ y, u.kids[i]? = some y := ⟨_, List.getElem?_eq_getElem (by omega)⟩
  obtain ⟨ht1, ht2⟩ := take_t (x := x.er) (y := y.er) heq (by rw [ers_map, List.getElem?_map, hx]; rfl) (by rw [ers_map, List.getElem?_map, hy]; rfl)
  have hsa := kid_some ht hx
  have hsb := kid_some hu hy
  have hml := List.mem_of_getElem? hx
  have hmu := List.mem_of_getElem? hy
  refine wX ?_
  refine Nd.mk ⟨hsa, by omega, by omega⟩ ?_
  refine wX ?_
  refine LdN.agg (nodeC x) rfl (fun w hw => hw.1.1.row) rfl (fun j hj => by
   rw [Int.toNat_natCast]
   exact nodesC_get t.kids i j hj hx) ?_
  refine wX ?_
  refine Nd.mk ⟨hsb, by omega, by omega⟩ ?_
  refine wX ?_
  refine LdN.agg (nodeC y) rfl (fun w hw => hw.1.2.row) rfl (fun j hj => by
   rw [Int.toNat_natCast]
   exact nodesC_get u.kids i j hj hy) ?_
  refine wX ?_
  refine callQ (ih x hml (ht.kid hml) y (hu.kid hmu) _ ?_) ?_
  ·exact fun w hw => ⟨hw.1.1.kid hml, hw.1.2.kid hmu⟩
  by_cases he : x.er = y.er
  ·rw [(sameT_iff x y).2 he]
   refine wX ?_
   refine ⟨i + 1, ⟨by omega, ht1 he⟩, by omega, ?_, wHH⟩
   exact wKK
  ·rw [sameT_no he]
   refine wX ?_
   rw [sameT_no fun h => ht2 he (er_op h).2.2.2]
 ·have hie : i = t.kids.length := by omega
  subst hie
  refine wX ?_
  rw [(sameT_iff _ _).2]
  have e1 : (ers t.kids).length = t.kids.length := by simp [ers_map]
  have e2 : (ers u.kids).length = t.kids.length := by simp [ers_map, hlm]
  rw [List.take_of_length_le (by omega), List.take_of_length_le (by omega)] at heq
  exact er_of h1 h2' h3 heq
end Go.Proofs.YtpikpjlhdkkigaaGreatDoor
namespace Go.Proofs.YtpikpjlhdkkigaaGreatDoor
open Go.AX Go.RowKit Go.Tree Go.Scan
set_option maxRecDepth 20000
theorem plsG_get (l : List Pl) (i j : Nat) (hj : j < 2) {p : Pl} (hp : l[i]? = some p) : (plsC l)[i * 2 + j]? = (plC p)[j]? := by
 unfold plsC
 rw [flat_get (g := plC) (m := 2) (fun _ => rfl) l i j hj, hp]
 rfl
theorem grown_fit {t : TP} (h : Grown1 t) : Fit 3000 1 [t] := ⟨by have := h.sz; rw [szs_one]; omega, fun k hk => by
 rw [List.mem_singleton.1 hk]
 have := h.dp
 omega⟩
theorem grown_ch : Ch [[]] [0] := ⟨by simp, fun s hs => by rw [List.mem_singleton.1 hs]; decide⟩
theorem grown_un {t : TP} (h : Grown1 t) : (whole t).un = false := by
 obtain ⟨k, hk⟩ := h.kn
 exact (hk [0] [[]] grown_ch fun x hx => by cases hx).1
theorem grown_chk {t : TP} (h : Grown1 t) : chkV t = 0 := by
 rw [chkV, if_pos (grown_fit h), if_neg (by rw [grown_un h]; decide)]
end Go.Proofs.YtpikpjlhdkkigaaGreatDoor
namespace Go.AX
theorem app_at {H : List Ent} {e : TypeId} {inf : TypeInfo} {n cap m : Nat} {sa : Option Addr} {ob : Option Nat} {K : AV → List Ent → Prop} (i : Nat) (xs ys : List Value) (he : nthE H i = some (.app e inf.size xs (ob.map fun b => ⟨b, 0, none⟩) n cap)) (hn : n ≤ cap) (hsa : 0 < m → sa.isSome = true)
  (hlen : ys.length = m * inf.size) (hone : ∀ u ∈ ys, oneV u = true) (hok : ∀ w, Facts H w → ∀ j v, ys[j]? = some v → w.cell? ((sa.getD default).add j) = some v) (hroom : room n m inf.bytes ∧ inf.size ≠ 0)
  (next : ∀ (ob' : Option Nat) (cap' : Nat), n + m ≤ cap' → (ob' = none → m = 0 ∧ ob = none) → setEK H i (.app e inf.size (xs ++ ys) (ob'.map fun b => ⟨b, 0, none⟩) (n + m) cap') fun H' => K (.c (.v (.slice (ob'.map fun b => ⟨b, 0, none⟩) (n + m) cap'))) H') :
  brd (Nat.beq m 0) (appendZ H (.c (.v (.slice (ob.map fun b => ⟨b, 0, none⟩) n cap))) (forceA (.c (.v (.slice (ob.map fun b => ⟨b, 0, none⟩) n cap))) fun x => K x H)) (Nd (sa.isSome = true) (ApN H (sa.getD default) m inf.size fun news => appendTo e inf H (.c (.v (.slice (ob.map fun b => ⟨b, 0, none⟩) n cap))) m news K)) := by
 cases m with
 | zero =>
  have h0 : ys = [] := List.eq_nil_of_length_eq_zero (by omega)
  subst h0
  have := next ob cap (by omega) fun h => ⟨rfl, h⟩
  rw [List.append_nil, Nat.add_zero] at this
  have h2 := setEK_self he this
  cases ob with
  | none => exact ⟨hn, h2⟩
  | some b => exact ⟨hn, h2⟩
 | succ m =>
  refine ⟨hsa (by omega), ⟨ys, hlen, hone, hok, ?_⟩⟩
  exact AppN.grow i xs ys he (plains_vs _) ⟨by omega, hroom⟩ fun b c h _ => next (some b) c h fun h => by cases h
end Go.AX
namespace Go.Proofs.YtpikpjlhdkkigaaGreatDoor
open Go.AX Go.RowKit Go.Tree Go.Scan
set_option maxRecDepth 20000
theorem modM (x : Int) (n : Nat) (hn : 1 ≤ n ∧ n ≤ 100000000000000) : ∃ d : Nat, IntKind.i64.wrap ((IntKind.u64.wrap x).tmod (IntKind.u64.wrap (n : Int))) = (d : Int) ∧ d < n := by
 have h := wrap_u64_bd x
 rw [wrap_u64 (x := (n : Int)) (by omega)]
 generalize IntKind.u64.wrap x = X at h ⊢
 have hx : X.tmod (n : Int) = X % (n : Int) := Int.tmod_eq_emod_of_nonneg (by omega)
 have h1 : 0 ≤ X % (n : Int) := Int.emod_nonneg _ (by omega)
 have h2 : X % (n : Int) < (n : Int) := Int.emod_lt_of_pos _ (by omega)
 refine ⟨(X % (n : Int)).toNat, ?_, by omega⟩
 rw [hx, wrap_i64 (by omega)]
 omega
structure Moved (t u : TP) (f : List UInt8) : Prop where
 v : V .top u
 chk : chkV u = 0
 pl : (whole u).pl = (whole t).pl
 no : f ∉ hn u
 nb : f = [95] → otherL ∉ bn u
theorem moved_of {t u : TP} {f : List UInt8} (ht : Grown1 t) (hf : f ∈ nmL) (he : u.er = rn f otherL t) : Moved t u f := by
 have hfn : f ≠ [] := nmL_ne hf
 have hon : otherL ≠ [] := by decide
 have hoh : otherL ∉ hn t := fun h => nmL_other (ht.hn _ h)
 have hw : whole u = (whole t).ren f otherL := by
  have h1 := wk_ren hfn hon t hoh [0] [[]] fun s h => by
   unfold namesAt at h
   cases s with
   | zero => cases h
   | succ s => cases h
  show wk u [0] [[]] = _
  rw [← wk_er u, he]
  exact h1
 have hsz : u.sz = t.sz := by rw [← sz_er u, he, sz_rn]
 have hdp : u.dp = t.dp := by rw [← dp_er u, he, dp_rn]
 have hfo : f ≠ otherL := fun e => nmL_other (e ▸ hf)
 refine ⟨V.uner u (by rw [he]; exact V.renm hfn (by decide) (by decide) t hoh ht.v), ?_, by rw [hw]; rfl, fun h => ?_, fun h5 h => ?_⟩
 ·have hfit : Fit 3000 1 [u] := ⟨by have := ht.sz; rw [szs_one, hsz]; omega, fun k hk => by
   rw [List.mem_singleton.1 hk, hdp]
   have := ht.dp
   omega⟩
  rw [chkV, if_pos hfit, hw, if_neg]
  show ¬ (whole t).un = true
  rw [grown_un ht]
  decide
 ·rw [← hn_er, he, hn_rn hfn hon] at h
  obtain ⟨x, hx, e⟩ := List.mem_map.1 h
  unfold ren at e
  split at e
  ·exact hfo e.symm
  ·rename_i h6
   exact h6 e
 ·rw [← bn_er, he, bn_rn hfn] at h
  obtain ⟨x, hx, e⟩ := List.mem_map.1 h
  unfold ren at e
  split at e
  ·rename_i h6
   rw [h6, h5] at hx
   exact V.bn t ht.v hx
  ·exact hoh (e ▸ bn_hn t x hx)
theorem back_same {t u b : TP} {f : List UInt8} (ht : Grown1 t) (hf : f ∈ nmL) (he : u.er = rn f otherL t) (hb : b.er = rn otherL f u) : b.er = t.er := by
 rw [hb, ← rn_er, he, rn_back f otherL (nmL_ne hf) (by decide) t fun h => nmL_other (ht.hn _ h)]
theorem moved_same {t u : TP} {f : List UInt8} (hf : f ∈ nmL) (hh : f ∈ hn t) (he : u.er = rn f otherL t) : ¬ u.er = t.er := by
 rw [he]
 exact rn_moves f otherL (fun e => nmL_other (e ▸ hf)) (nmL_ne hf) t hh
theorem scope_name {t : TP} {sc : List ScD} {s : Nat} {d : ScD} (hnm : nmS sc = (whole t).nm) (hd : sc[s]? = some d) : ∀ x ∈ d.l, x ∈ hn t := fun x hx => by
 rw [← nm_at hd, hnm] at hx
 rcases wk_from t [0] [[]] s x hx with ⟨u, hu⟩ | h
 ·unfold namesAt at hu
  cases u with
  | zero => cases hu
  | succ u => cases hu
 ·exact h
end Go.Proofs.YtpikpjlhdkkigaaGreatDoor
namespace Go.Proofs.YtpikpjlhdkkigaaGreatDoor
open Go.AX Go.RowKit Go.Tree Go.Scan
set_option maxRecDepth 20000
structure BkI where
 i : Nat
 l : NL
 ob : Option Nat
 cap : Nat
set_option maxHeartbeats 4000000 in
theorem TreeBack_c (a : Option Addr) (l0 : List Int) (cap : Nat) (hcl : l0.length ≤ cap) (hna : a = none → l0 = []) (x : Int) : ∀ H, (∀ w, Facts H w → ScanF w ∧ SlAt a l0.length (intG l0) w) → SpecH Tryz.prog 5 (pvs [.slice a l0.length cap, .int .i64 x]) H (Ret (.bool true) H) := by
 refine factC hm Tryz.func5 (by kernel_rfl) rfl rfl ?_
 refine wX ?_
 refine SpecF.call (Grown_c a l0 cap hcl hna) (fun w hw => hw.1.2) fun v G1 hR => ?_
 obtain ⟨t, rfl, ht, hG1⟩ := hR
 have hchk := grown_chk ht
 refine wX ?_
 refine SpecF.call (Scopes_c t ht.tk fun _ => ht.v) (fun w hw => ⟨hw.1.1, hG1 w hw.2.1⟩) fun v G2 hR => ?_
 unfold ScopesR at hR
 rw [if_pos hchk] at hR
 obtain ⟨sc, sa, scap, rfl, hnm, hsc, hs1, hsok, hsn, hG2⟩ := hR
 refine wX ?_
 refine LoopN.intro BkI (fun j => j.i ≤ sc.length ∧ j.l.length ≤ j.i * 100000 ∧ (∀ y ∈ j.l, y ∈ hn t) ∧ j.l.length ≤ j.cap ∧ (j.ob = none → j.l = []))
  (fun ⟨i, l, ob, cap⟩ => mkS Tryz.f5.ntmps 0 [(1, .c (.v (.int .i64 x))), (4, .c (.v (.bool false))), (5, .c (.lp 2 0)), (6, .c (.v (.slice sa sc.length scap))), (8, .c (.v (.slice (at0 ob) l.length cap))), (9, .c (.v (.int .i64 (i : Int))))])
  (fun ⟨i, l, ob, cap⟩ => [.fact (fun w => ScanF w ∧ SlAt a l0.length (intG l0) w), .fact G1, .blk 25 (cellsV (nodeV t)), .fact G2, .app 9 1 (strsC l) (at0 ob) l.length cap])
  (fun j => sc.length - j.i) [.app 9 1 [] none 0 0] rfl (fun _ => rfl) (fun _ => rfl) (fun _ _ => okHB_eq rfl)
  ⟨⟨0, [], none, 0⟩, ⟨Nat.zero_le _, Nat.zero_le _, (fun _ h => by cases h), Nat.le_refl _, fun _ => rfl⟩, ?_, wkH_refl _⟩ ?_
 ·exact wKK
 rintro ⟨i, l, ob, cap⟩ ⟨hi, hlen, hmem, hcap, hnil⟩
 have hi : i ≤ sc.length := hi
 have hlen : l.length ≤ i * 100000 := hlen
 have hmem : ∀ y ∈ l, y ∈ hn t := hmem
 have hcap : l.length ≤ cap := hcap
 have hnil : ob = none → l = [] := hnil
 refine wX ?_
 refine brd_dec (fun h1 => ?_) (fun h1 => ?_)
 ·obtain ⟨d, hd⟩ : ∃ d, sc[i]? = some d := ⟨_, List.getElem?_eq_getElem (by omega)⟩
  have hss := isT hsn hd
  have hdm := List.mem_of_getElem? hd
  have hdl := (hsok d hdm).len
  have hdn := (hsok d hdm).nil
  refine wX ?_
  refine Nd.mk ⟨hss, by omega, by omega⟩ ?_
  refine wX ?_
  refine LdN.one (.slice (at0 d.na) d.l.length d.nc) rfl (fun w hw => (hG2 w hw.2.2.1).1) (by rw [Int.toNat_natCast]; show (slsC sc)[i * 1]? = _; rw [Nat.mul_one, slsC, List.getElem?_map, hd]; rfl) ?_
  refine wX ?_
  refine app_at 4 (strsC l) (strsC d.l) rfl hcap (fun h => by cases hq : d.na with | none => rw [(hdn hq).1] at h; cases h | some b => rfl) (by show (strsC d.l).length = d.l.length * 1; rw [Nat.mul_one, strsC, List.length_map]) (strs_one _) (fun w hw j v hv => ((hG2 w hw.2.2.1).2 d hdm).cell hv) ⟨⟨by show (l.length + d.l.length) * 16 ≤ _; omega, by omega⟩, by decide⟩ fun ob2 c2 hc2 hob2 => ?_
  refine wX ?_
  have e1 : strsC l ++ strsC d.l = strsC (l ++ d.l) := by simp [strsC]
  have e2 : l.length + d.l.length = (l ++ d.l).length := by simp
  rw [e1, e2]
  refine ⟨⟨i + 1, l ++ d.l, ob2, c2⟩, ⟨by show i + 1 ≤ _; omega, by show (l ++ d.l).length ≤ (i + 1) * 100000; rw [← e2]; omega, fun y hy => ?_, by show (l ++ d.l).length ≤ c2; rw [← e2]; exact hc2, fun h => ?_⟩, by show sc.length - (i + 1) < sc.length - i; omega, ?_, wHH⟩
  ·rcases List.mem_append.1 hy with hy | hy
   ·exact hmem y hy
   ·exact scope_name hnm hd y hy
  ·obtain ⟨h2, h3⟩ := hob2 h
   rw [hnil h3, List.length_eq_zero_iff.1 h2]
   rfl
  ·(repeat' (first | exact trivial | refine And.intro (by with_reducible rfl) ?_ | (with_reducible exact wkC_refl _) | (with_reducible exact wkCs_refl _) | refine And.intro ?_ ?_))
   all_goals first | rfl | exact av_int (by omega) | exact av_int (by rw [wrap_i64 (by omega)]; omega)
 ·refine wX ?_
  refine brd_eq (fun h0 => ?_) (fun h0 => ?_)
  ·refine wX ?_
   refine call1 (sane15_c _ (fun w hw => hw.1.1)) ?_
   exact wZ
  have hlp : 1 ≤ l.length := by omega
  have hob : (at0 ob).isSome = true := by
   cases ob with
   | none => rw [hnil rfl] at hlp; exact absurd hlp (by decide)
   | some b => rfl
  obtain ⟨m, hm2, hmn⟩ := modM x l.length ⟨hlp, by omega⟩
  obtain ⟨f, hf⟩ : ∃ f, l[m]? = some f := ⟨_, List.getElem?_eq_getElem hmn⟩
  have hfh := hmem f (List.mem_of_getElem? hf)
  have hfn := ht.hn f hfh
  refine wX ?_
  refine Nd.mk (by rw [wrap_u64 (by omega)]; omega) ?_
  (conv => whnf)
  refine Nd.mk ⟨hob, by rw [hm2]; omega, by rw [hm2]; omega⟩ ?_
  refine wX ?_
  refine LdN.one (.string (bs f)) rfl (fun w hw => hw.2.2.2.1) (by rw [hm2, Int.toNat_natCast]; show (strsC l)[m * 1]? = _; rw [Nat.mul_one]; exact strsC_get hf) ?_
  refine wX ?_
  have hr1 : RenOk t f otherL := ⟨ht.tk, ht.v, hchk, by have := nmL_len f hfn; omega, by decide, by decide, (fun h => absurd h (by decide)), fun h => nmL_other (ht.hn _ h)⟩
  refine SpecF.call (Rename_c t f otherL hr1) (fun w hw => ⟨hw.1.1, hG1 w hw.2.1⟩) fun v G3 hR => ?_
  obtain ⟨u, rfl, hu1, hu2, hG3⟩ := hR
  have hM := moved_of ht hfn hu1
  refine wX ?_
  have hr2 : RenOk u otherL f := ⟨hu2, hM.v, hM.chk, by decide, by have := nmL_len f hfn; omega, nmL_lo f hfn, hM.nb, hM.no⟩
  refine SpecF.call (Rename_c u otherL f hr2) (fun w hw => ⟨hw.1.1, hG3 w hw.2.2.2.1⟩) fun v G4 hR => ?_
  obtain ⟨b, rfl, hb1, hb2, hG4⟩ := hR
  have hsame := back_same ht hfn hu1 hb1
  have hmove := moved_same hfn hfh hu1
  refine wX ?_
  refine SpecF.call (Resolve_c t ht.tk fun _ => ht.v) (fun w hw => ⟨hw.1.1, hG1 w hw.2.1⟩) fun v G5 hR => ?_
  unfold PlacesR at hR
  rw [if_pos hchk] at hR
  obtain ⟨pa, pcap, rfl, hp1, hpn, hG5⟩ := hR
  refine wX ?_
  refine SpecF.call (Resolve_c u hu2 fun _ => hM.v) (fun w hw => ⟨hw.1.1, hG3 w hw.2.2.2.1⟩) fun v G6 hR => ?_
  unfold PlacesR at hR
  rw [if_pos hM.chk, hM.pl] at hR
  obtain ⟨qa, qcap, rfl, hq1, hqn, hG6⟩ := hR
  generalize (whole t).pl = pl at hp1 hpn hG5 hqn hG6 ⊢
  refine wX ?_
  refine call1 (RSame_c b hb2 t ht.tk _ (fun w hw => ⟨hG4 w hw.2.2.2.2.2.1, hG1 w hw.2.1⟩)) ?_
  rw [show sameT b t = true from (sameT_iff b t).2 hsame]
  refine wX ?_
  refine call1 (RSame_c u hu2 t ht.tk _ (fun w hw => ⟨hG3 w hw.2.2.2.2.1, hG1 w hw.2.1⟩)) ?_
  rw [sameT_no hmove]
  refine wX ?_
  refine brd_ne (fun h => absurd rfl h) (fun _ => ?_)
  refine wX ?_
  refine loopS Nat (fun j => j ≤ pl.length) (fun j => mkS Tryz.f5.ntmps 0 [(4, .c (.v (.bool false))), (15, .c (.v (.slice pa pl.length pcap))), (17, .c (.v (.slice qa pl.length qcap))), (19, .c (.v (.int .i64 (j : Int))))]) (fun j => pl.length - j) rfl (fun _ => rfl) 0 (Nat.zero_le _) ?_ fun j hj => ?_
  ·exact wKK
  refine wX ?_
  refine brd_dec (fun h2 => ?_) (fun h2 => ?_)
  ·obtain ⟨p, hp⟩ : ∃ p, pl[j]? = some p := ⟨_, List.getElem?_eq_getElem (by omega)⟩
   have hpa := isT hpn hp
   have hqa := isT hqn hp
   refine wX ?_
   refine Nd.mk ⟨hpa, by omega, by omega⟩ ?_
   refine wX ?_
   refine LdN.agg (plC p) rfl (fun w hw => hG5 w hw.2.2.2.2.2.2.1) rfl (fun q hq => by rw [Int.toNat_natCast]; exact plsG_get pl j q hq hp) ?_
   refine wX ?_
   refine Nd.mk ⟨hqa, by omega, by omega⟩ ?_
   refine wX ?_
   refine LdN.agg (plC p) rfl (fun w hw => hG6 w hw.2.2.2.2.2.2.2.1) rfl (fun q hq => by rw [Int.toNat_natCast]; exact plsG_get pl j q hq hp) ?_
   refine wX ?_
   refine brd_intro (fun e => absurd e (by simp)) (fun _ => ?_)
   refine wX ?_
   refine ⟨j + 1, by show j + 1 ≤ _; omega, by show pl.length - (j + 1) < pl.length - j; omega, ?_, wHH⟩
   (repeat' (first | exact trivial | refine And.intro (by with_reducible rfl) ?_ | (with_reducible exact wkC_refl _) | (with_reducible exact wkCs_refl _) | refine And.intro ?_ ?_))
   all_goals first | rfl | exact av_int (by omega) | exact av_int (by rw [wrap_i64 (by omega)]; omega)
  ·refine wX ?_
   refine call1 (sane15_c _ (fun w hw => hw.1.1)) ?_
   exact wZ
end Go.Proofs.YtpikpjlhdkkigaaGreatDoor
