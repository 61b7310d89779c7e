/-
  TreePlacesCardSaid is proved: of every list of numbers TreePlaces returns true and leaves its argument as it was; the listed tables are tied to the program's text.
-/
import Derived.Test.YtpikpjlhdkkigaaGreatDoorCards
import Derived.Test.YtpikpjlhdkkigaaGreatDoorTie
import Derived.Test.YtpikpjlhdkkigaaGreatDoorTpl9
set_option linter.unusedVariables false
set_option linter.unusedSimpArgs false
namespace Go.Proofs.YtpikpjlhdkkigaaGreatDoor
open Go.AX Go.RowKit Go.Tree Go.Scan
set_option maxRecDepth 20000
def defL : NL := [[102, 111, 111], [120, 61], [43], [91, 93, 61], [102, 63], [99, 108, 97, 115, 115]]
def aliL : NL := [[102, 111, 111], [120, 61], [60, 60]]
def barL : NL := [[98, 97, 114], [61, 61]]
def undL : NL := [[102, 111, 111], [91, 93], [102, 63]]
theorem defL_v : ∀ x ∈ defL, meB x = true ∧ x.length ≤ 2000 := by decide +kernel
theorem aliL_v : ∀ x ∈ aliL, meB x = true ∧ x.length ≤ 2000 := by decide +kernel
theorem barL_v : ∀ x ∈ barL, meB x = true ∧ x.length ≤ 2000 := by decide +kernel
theorem undL_v : ∀ x ∈ undL, meB x = true ∧ x.length ≤ 2000 := by decide +kernel
theorem icC : icB [67] = true ∧ icB [68] = true ∧ icB [77] = true ∧ iiB [64, 97] = true := by decide +kernel
set_option maxHeartbeats 4000000 in
theorem gmore_c (D : Nat) (hD : D ≤ 50) (ih : ExprC D) (hs : SomeC (D + 1)) (hq : SeqC (D + 1)) (hb : BodyC (D + 1)) (ha : ArgsC (D + 1)) : NodeKC 41 .ex isAny (D + 1) 9 (4 * (D + 1) + 3) := by
 intro g ok k kok p z hp A hA
 refine ownT hm Tryz.func41 (by kernel_rfl) rfl rfl (fun _ _ => okHB_eq rfl) (fun _ _ => Nat.le_of_ble_eq_true rfl) ?_
 have hlen := ok.len
 have hko : KdOk k0 := k0_ok
 have hA1 : ∀ w, A w → NumF g w := fun w hw => (hA w hw).1
 have hA0 : ∀ w, A w → NumF g w ∧ KnF k0 w := fun w hw => ⟨(hA w hw).1, k0_f w⟩
 refine wXR ?_
 refine callG (pick_c g ok p z 15 ⟨by decide, by decide⟩ hp A hA1) [0, 1] rfl ⟨rfl, rfl, trivial⟩ rfl fun i hi => ?_
 obtain ⟨x, q⟩ := i
 obtain ⟨h1, h2, h3, h4⟩ := hi
 have h1 : x < 15 := h1
 have h2 : p ≤ q := h2
 have h3 : q ≤ g.l.length := h3
 have h4 : x ≠ 0 → p < q := h4
 rcases (by omega : x = 0 ∨ x = 1 ∨ x = 2 ∨ x = 3 ∨ x = 4 ∨ x = 5 ∨ x = 6 ∨ x = 7 ∨ x = 8 ∨ x = 9 ∨ x = 10 ∨ x = 11 ∨ x = 12 ∨ x = 13 ∨ x = 14) with rfl | rfl | rfl | rfl | rfl | rfl | rfl | rfl | rfl | rfl | rfl | rfl | rfl | rfl | rfl
 ·-- one of a list's texts; defL: the list, 3: the row's entry, q: where, h3: why, x q2: names
  refine wXR ?_
  refine RwN.known (strsC defL) rfl fun rbx => ?_
  refine wXR ?_
  refine SpecH.shut 3 rfl ?_
  refine callG (text_c g ok q z h3 A _ (fun w hw => (hA w hw).1) (some ⟨rbx, 0, none⟩) defL _ ⟨by decide, by decide⟩ rfl (fun w hw => hw)) [0, 1, 3] rfl ⟨rfl, rfl, rfl, trivial⟩ rfl fun i hi2 => ?_
  obtain ⟨x, q2⟩ := i
  obtain ⟨hmx, hqx, hrx⟩ := hi2
  have hmx : x ∈ defL := hmx
  have hqx : q ≤ q2 := hqx
  have hrx : q2 ≤ g.l.length := hrx
  have hxv := defL_v x hmx
  refine wXR ?_
  refine callG (pick_c g ok q2 z 2 ⟨by decide, by decide⟩ hrx A hA1) [0, 1] rfl ⟨rfl, rfl, trivial⟩ rfl fun i hi3 => ?_
  obtain ⟨y, q3⟩ := i
  obtain ⟨y1, y2, y3, y4⟩ := hi3
  have y1 : y < 2 := y1
  have y2 : q2 ≤ q3 := y2
  have y3 : q3 ≤ g.l.length := y3
  have y4 : y ≠ 0 → q2 < q3 := y4
  refine wXR ?_
  refine callG (hb g ok k0 hko q3 z y3 A hA0) [0, 1] rfl ⟨rfl, rfl, trivial⟩ rfl fun j hj => ?_
  obtain ⟨ps, s, ba, bc, bk, q4, z2, F2⟩ := j
  have hle2 : q3 ≤ q4 ∧ q4 ≤ g.l.length := hj.le
  have hgs : Gs [] (ps ++ [s]) bk (1 + 8 * (q4 - q3)) (4 * (D + 1)) := hj.gs
  refine wX ?_
  have hg : Gn k.l ⟨35, x, (y : Int), ba, ps ++ [s], bc⟩ k.l (2 + 8 * (q4 - q3)) (4 * (D + 1) + 1) := (Gn.dfn hxv.2 hj.row (by omega) hgs).le (by omega) (Nat.le_refl _)
  refine ⟨_, sealG _ _ _ _ _, ⟨⟨35, x, (y : Int), ba, ps ++ [s], bc⟩, k, q4, z2, _⟩, ⟨.dfn hxv.1 (by omega) hj.vp hj.pk hj.vs hj.so, trivial, hg.le (s2 := 9 + 8 * (q4 - p)) (by omega) (by omega), kok, ⟨by show p ≤ q4; omega, hle2.2⟩, fun w hw => ?_⟩, rfl, ⟨wkE_refl _, wkE_refl _, wkH_nil _⟩⟩
  obtain ⟨f1, f2⟩ := hj.f w hw.1
  exact ⟨f1, treeF hg.tk f2.1 rfl f2.2, (hA w f1).2⟩
 ·-- a seq; k0: known, q: numbers, h3: why, z: z, A: F, hA0: facts, 6: names
  refine wX ?_
  refine callG (hq g ok k0 (by assumption) q z h3 A hA0) [0, 1] rfl ⟨rfl, rfl, trivial⟩ rfl fun j6 hj6 => ?_
  obtain ⟨s6, k6, q6, z6, F6⟩ := j6
  have hls6 : q ≤ q6 ∧ q6 ≤ g.l.length := hj6.le
  have hgq6 : Gn k0.l s6 k6.l (1 + 8 * (q6 - q)) (4 * (D + 1)) := hj6.gn
  have hks6 : KdOk k6 := hj6.kd
  have hvs6 : V .ex s6 := hj6.v
  have hos6 : s6.op = 26 := hj6.q
  have hfs6 : ∀ w, F6 w → A w ∧ TreeF w s6 ∧ KnF k6 w := hj6.f
  refine wX ?_
  refine callG (pick_c g ok q6 z6 2 ⟨by decide, by decide⟩ hls6.2 F6 (fun w hw => (hA w (hfs6 w hw).1).1)) [0, 1] rfl ⟨rfl, rfl, trivial⟩ rfl fun i hi3 => ?_
  obtain ⟨y, q2⟩ := i
  obtain ⟨y1, y2, y3, y4⟩ := hi3
  have y1 : y < 2 := y1
  have y2 : q6 ≤ q2 := y2
  have y3 : q2 ≤ g.l.length := y3
  have y4 : y ≠ 0 → q6 < q2 := y4
  refine wXR ?_
  refine brd_eq (fun h5 => ?_) (fun h5 => ?_)
  ·refine wXR ?_
   refine RwN.known (nodesC [s6]) rfl fun nb => ?_
   refine wXR ?_
   refine call1 (node_c _ _ _ _ _ _) ?_
   refine wXR ?_
   have hg : Gn k.l ⟨32, [67], 0, some ⟨nb, 0, none⟩, [s6], 1⟩ k.l (1 + 8 * (q6 - q) + 1) (4 * (D + 1) + 1) := Gn.cls (ks := []) (.inl rfl) (by decide) (.some (Nat.le_refl 1)) (by omega) (Gs.nil _ _) hgq6 (by omega)
   refine ⟨_, sealG _ _ _ _ _, ⟨⟨32, [67], 0, some ⟨nb, 0, none⟩, [s6], 1⟩, k, q2, z6, _⟩, ⟨.cls0 icC.1 hvs6 hos6, trivial, hg.le (s2 := 9 + 8 * (q2 - p)) (by omega) (by omega), kok, ⟨by show p ≤ q2; omega, y3⟩, fun w hw => ?_⟩, rfl, ⟨wkE_refl _, wkE_refl _, wkH_nil _⟩⟩
   obtain ⟨f1, f2, f3⟩ := hfs6 w hw.1
   exact ⟨f1, treeF hg.tk hw.2.1 rfl (one_mem f2), (hA w f1).2⟩
  ·-- an expr; the same
   refine wX ?_
   rw [low D (by omega)]
   refine callG (ih g ok k (by assumption) q2 z6 y3 F6 (fun w hw => hA w (hfs6 w hw).1)) [0, 1] rfl ⟨rfl, rfl, trivial⟩ rfl fun j7 hj7 => ?_
   obtain ⟨s7, k7, q7, z7, F7⟩ := j7
   have hls7 : q2 ≤ q7 ∧ q7 ≤ g.l.length := hj7.le
   have hgq7 : Gn k.l s7 k7.l (1 + 8 * (q7 - q2)) (4 * (D + 1)) := Gn.le (s := 1 + 8 * (q7 - q2)) (d := 4 * D + 3) hj7.gn (Nat.le_refl _) (by omega)
   have hks7 : KdOk k7 := hj7.kd
   have hvs7 : V .ex s7 := hj7.v
   have hfs7 : ∀ w, F7 w → F6 w ∧ TreeF w s7 ∧ KnF k7 w := hj7.f
   refine wX ?_
   refine callG (hq g ok k0 (by assumption) q7 z7 hls7.2 F7 (fun w hw => hA0 w (hfs6 w (hfs7 w hw).1).1)) [0, 1] rfl ⟨rfl, rfl, trivial⟩ rfl fun j8 hj8 => ?_
   obtain ⟨s8, k8, q8, z8, F8⟩ := j8
   have hls8 : q7 ≤ q8 ∧ q8 ≤ g.l.length := hj8.le
   have hgq8 : Gn k0.l s8 k8.l (1 + 8 * (q8 - q7)) (4 * (D + 1)) := hj8.gn
   have hks8 : KdOk k8 := hj8.kd
   have hvs8 : V .ex s8 := hj8.v
   have hos8 : s8.op = 26 := hj8.q
   have hfs8 : ∀ w, F8 w → F7 w ∧ TreeF w s8 ∧ KnF k8 w := hj8.f
   refine wXR ?_
   refine RwN.known (nodesC [s7, s8]) rfl fun nb => ?_
   refine wXR ?_
   have hg : Gn k.l ⟨32, [68], 1, some ⟨nb, 0, none⟩, [s7, s8], 2⟩ k7.l (1 + 8 * (q7 - q2) + (1 + 8 * (q8 - q7)) + 1) (4 * (D + 1) + 1) := Gn.cls (ks := [s7]) (.inl rfl) (by decide) (.some (Nat.le_refl 2)) (by omega) hgq7.s hgq8 (Nat.le_refl _)
   refine ⟨_, sealG _ _ _ _ _, ⟨⟨32, [68], 1, some ⟨nb, 0, none⟩, [s7, s8], 2⟩, k7, q8, z8, _⟩, ⟨.cls1 icC.2.1 hvs7 hvs8 hos8, trivial, hg.le (s2 := 9 + 8 * (q8 - p)) (by omega) (by omega), hks7, ⟨by show p ≤ q8; omega, hls8.2⟩, fun w hw => ?_⟩, rfl, ⟨wkE_refl _, wkE_refl _, wkH_nil _⟩⟩
   obtain ⟨f1, f2, f3⟩ := hfs8 w hw.1
   obtain ⟨f4, f5, f6⟩ := hfs7 w f1
   exact ⟨(hfs6 w f4).1, treeF hg.tk hw.2.1 rfl (two_mem f5 f2), f6⟩
 ·have h5 := h4 (by decide)
  refine wX ?_
  refine callG (hq g ok k0 (by assumption) q z h3 A hA0) [0, 1] rfl ⟨rfl, rfl, trivial⟩ rfl fun j6 hj6 => ?_
  obtain ⟨s6, k6, q6, z6, F6⟩ := j6
  have hls6 : q ≤ q6 ∧ q6 ≤ g.l.length := hj6.le
  have hgq6 : Gn k0.l s6 k6.l (1 + 8 * (q6 - q)) (4 * (D + 1)) := hj6.gn
  have hks6 : KdOk k6 := hj6.kd
  have hvs6 : V .ex s6 := hj6.v
  have hos6 : s6.op = 26 := hj6.q
  have hfs6 : ∀ w, F6 w → A w ∧ TreeF w s6 ∧ KnF k6 w := hj6.f
  refine wXR ?_
  refine RwN.known (nodesC [s6]) rfl fun nb => ?_
  refine wXR ?_
  refine call1 (node_c _ _ _ _ _ _) ?_
  refine wXR ?_
  have hg : Gn k.l ⟨33, [77], 0, some ⟨nb, 0, none⟩, [s6], 1⟩ k.l (1 + 8 * (q6 - q) + 1) (4 * (D + 1) + 1) := Gn.cls (ks := []) (.inr (.inl rfl)) (by decide) (.some (Nat.le_refl 1)) (by omega) (Gs.nil _ _) hgq6 (by omega)
  refine ⟨_, sealG _ _ _ _ _, ⟨⟨33, [77], 0, some ⟨nb, 0, none⟩, [s6], 1⟩, k, q6, z6, _⟩, ⟨.modu icC.2.2.1 hvs6 hos6, trivial, hg.le (s2 := 9 + 8 * (q6 - p)) (by omega) (by omega), kok, ⟨by show p ≤ q6; omega, hls6.2⟩, fun w hw => ?_⟩, rfl, ⟨wkE_refl _, wkE_refl _, wkH_nil _⟩⟩
  obtain ⟨f1, f2, f3⟩ := hfs6 w hw.1
  exact ⟨f1, treeF hg.tk hw.2.1 rfl (one_mem f2), (hA w f1).2⟩
 ·have h5 := h4 (by decide)
  refine wX ?_
  rw [low D (by omega)]
  refine callG (ih g ok k (by assumption) q z h3 A hA) [0, 1] rfl ⟨rfl, rfl, trivial⟩ rfl fun j7 hj7 => ?_
  obtain ⟨s7, k7, q7, z7, F7⟩ := j7
  have hls7 : q ≤ q7 ∧ q7 ≤ g.l.length := hj7.le
  have hgq7 : Gn k.l s7 k7.l (1 + 8 * (q7 - q)) (4 * (D + 1)) := Gn.le (s := 1 + 8 * (q7 - q)) (d := 4 * D + 3) hj7.gn (Nat.le_refl _) (by omega)
  have hks7 : KdOk k7 := hj7.kd
  have hvs7 : V .ex s7 := hj7.v
  have hfs7 : ∀ w, F7 w → A w ∧ TreeF w s7 ∧ KnF k7 w := hj7.f
  refine wX ?_
  refine callG (hq g ok k0 (by assumption) q7 z7 hls7.2 F7 (fun w hw => hA0 w (hfs7 w hw).1)) [0, 1] rfl ⟨rfl, rfl, trivial⟩ rfl fun j8 hj8 => ?_
  obtain ⟨s8, k8, q8, z8, F8⟩ := j8
  have hls8 : q7 ≤ q8 ∧ q8 ≤ g.l.length := hj8.le
  have hgq8 : Gn k0.l s8 k8.l (1 + 8 * (q8 - q7)) (4 * (D + 1)) := hj8.gn
  have hks8 : KdOk k8 := hj8.kd
  have hvs8 : V .ex s8 := hj8.v
  have hos8 : s8.op = 26 := hj8.q
  have hfs8 : ∀ w, F8 w → F7 w ∧ TreeF w s8 ∧ KnF k8 w := hj8.f
  refine wXR ?_
  refine RwN.known (nodesC [s7, s8]) rfl fun nb => ?_
  refine wXR ?_
  refine call1 (node_c _ _ _ _ _ _) ?_
  refine wXR ?_
  have hg : Gn k.l ⟨34, [], 0, some ⟨nb, 0, none⟩, [s7, s8], 2⟩ k7.l (1 + 8 * (q7 - q) + (1 + 8 * (q8 - q7)) + 1) (4 * (D + 1) + 1) := Gn.cls (ks := [s7]) (.inr (.inr rfl)) (by decide) (.some (Nat.le_refl 2)) (by omega) hgq7.s hgq8 (Nat.le_refl _)
  refine ⟨_, sealG _ _ _ _ _, ⟨⟨34, [], 0, some ⟨nb, 0, none⟩, [s7, s8], 2⟩, k7, q8, z8, _⟩, ⟨.whil (.inr rfl) hvs7 hvs8 hos8, trivial, hg.le (s2 := 9 + 8 * (q8 - p)) (by omega) (by omega), hks7, ⟨by show p ≤ q8; omega, hls8.2⟩, fun w hw => ?_⟩, rfl, ⟨wkE_refl _, wkE_refl _, wkH_nil _⟩⟩
  obtain ⟨f1, f2, f3⟩ := hfs8 w hw.1
  obtain ⟨f4, f5, f6⟩ := hfs7 w f1
  exact ⟨f4, treeF hg.tk hw.2.1 rfl (two_mem f5 f2), f6⟩
 ·have h5 := h4 (by decide)
  refine wXR ?_
  refine callG (pick_c g ok q z 2 ⟨by decide, by decide⟩ h3 A hA1) [0, 1] rfl ⟨rfl, rfl, trivial⟩ rfl fun i hi3 => ?_
  obtain ⟨y, q2⟩ := i
  obtain ⟨y1, y2, y3, y4⟩ := hi3
  have y1 : y < 2 := y1
  have y2 : q ≤ q2 := y2
  have y3 : q2 ≤ g.l.length := y3
  have y4 : y ≠ 0 → q < q2 := y4
  refine wXR ?_
  refine callG (hs g ok (y) (by omega) k kok q2 z y3 A hA) [0, 1] rfl ⟨rfl, rfl, trivial⟩ rfl fun j hj => ?_
  obtain ⟨l2, ob2, cap2, k2, q4, z2, F2⟩ := j
  obtain ⟨hj, hl2⟩ := hj
  have hl2 : l2.length = y := hl2
  have hle2 : q2 ≤ q4 ∧ q4 ≤ g.l.length := hj.le
  have hk2 : KdOk k2 := hj.kd
  have hgs2 : Gs k.l l2 k2.l (l2.length + 8 * (q4 - q2)) (4 * (D + 1)) := Gs.le (s := l2.length + 8 * (q4 - q2)) (d := 4 * (D + 1) - 1) hj.gs (Nat.le_refl _) (by omega)
  have hf2 : ∀ w, F2 w → A w ∧ (∀ t ∈ l2, TreeF w t) ∧ KnF k2 w := hj.f
  have hv2 : ∀ t ∈ l2, V .ex t := hj.v
  have hrk : RowK (at0 ob2) cap2 l2 := rowK hj.nil hj.cap
  refine wXR ?_
  refine RwN.known (intG [36, 37, 38]) rfl fun rb => ?_
  refine wXR ?_
  refine callG (pick_c g ok q4 z2 3 ⟨by decide, by decide⟩ hle2.2 F2 (fun w hw => (hA w (hf2 w hw).1).1)) [0, 1] rfl ⟨rfl, rfl, trivial⟩ rfl fun i hi3 => ?_
  obtain ⟨u, q5⟩ := i
  obtain ⟨y1, y2, y3, y4⟩ := hi3
  have y1 : u < 3 := y1
  have y2 : q4 ≤ q5 := y2
  have y3 : q5 ≤ g.l.length := y3
  have y4 : u ≠ 0 → q4 < q5 := y4
  have hret : ∀ o : Int, o = 36 ∨ o = 37 ∨ o = 38 → V .ex ⟨o, [], 0, at0 ob2, l2, cap2⟩ := fun o ho => .ret ho (by omega) hv2
  rcases (by omega : u = 0 ∨ u = 1 ∨ u = 2) with rfl | rfl | rfl
  ·-- a kind out of a list; 36: the kind, 0: its place, (hret 36 (by decide)): V, q5: numbers, 3: how many facts there are ahead of the list's
   refine wXR ?_
   refine Nd.mk ⟨rfl, by show (0 : Int) ≤ 0; decide, by show (0 : Int) < _; decide⟩ ?_
   refine wXR ?_
   refine LdN.one (.int .i64 36) rfl (fun w hw => hw.2.2.2.1) rfl ?_
   refine wXR ?_
   refine call1 (node_c _ _ _ _ _ _) ?_
   refine wXR ?_
   have hg : Gn k.l ⟨36, [], 0, at0 ob2, _, cap2⟩ k2.l _ (4 * (D + 1) + 1) := Gn.q rfl hrk (by decide) (by omega) hgs2
   refine ⟨_, sealG _ _ _ _ _, ⟨⟨36, [], 0, at0 ob2, _, cap2⟩, k2, q5, z2, _⟩, ⟨(hret 36 (by decide)), trivial, hg.le (s2 := 9 + 8 * (q5 - p)) (by omega) (by omega), hk2, ⟨by show p ≤ q5; omega, by show q5 ≤ _; omega⟩, fun w hw => ?_⟩, rfl, ⟨wkE_refl _, wkE_refl _, wkH_nil _⟩⟩
   obtain ⟨f1, f2, f3⟩ := hf2 w hw.1
   exact ⟨f1, treeF hg.tk hw.2.1 rfl f2, f3⟩
  ·-- a kind out of a list; 37: the kind, 1: its place, (hret 37 (by decide)): V, q5: numbers, 3: how many facts there are ahead of the list's
   refine wXR ?_
   refine Nd.mk ⟨rfl, by show (0 : Int) ≤ 1; decide, by show (1 : Int) < _; decide⟩ ?_
   refine wXR ?_
   refine LdN.one (.int .i64 37) rfl (fun w hw => hw.2.2.2.1) rfl ?_
   refine wXR ?_
   refine call1 (node_c _ _ _ _ _ _) ?_
   refine wXR ?_
   have hg : Gn k.l ⟨37, [], 0, at0 ob2, _, cap2⟩ k2.l _ (4 * (D + 1) + 1) := Gn.q rfl hrk (by decide) (by omega) hgs2
   refine ⟨_, sealG _ _ _ _ _, ⟨⟨37, [], 0, at0 ob2, _, cap2⟩, k2, q5, z2, _⟩, ⟨(hret 37 (by decide)), trivial, hg.le (s2 := 9 + 8 * (q5 - p)) (by omega) (by omega), hk2, ⟨by show p ≤ q5; omega, by show q5 ≤ _; omega⟩, fun w hw => ?_⟩, rfl, ⟨wkE_refl _, wkE_refl _, wkH_nil _⟩⟩
   obtain ⟨f1, f2, f3⟩ := hf2 w hw.1
   exact ⟨f1, treeF hg.tk hw.2.1 rfl f2, f3⟩
  ·-- a kind out of a list; 38: the kind, 2: its place, (hret 38 (by decide)): V, q5: numbers, 3: how many facts there are ahead of the list's
   refine wXR ?_
   refine Nd.mk ⟨rfl, by show (0 : Int) ≤ 2; decide, by show (2 : Int) < _; decide⟩ ?_
   refine wXR ?_
   refine LdN.one (.int .i64 38) rfl (fun w hw => hw.2.2.2.1) rfl ?_
   refine wXR ?_
   refine call1 (node_c _ _ _ _ _ _) ?_
   refine wXR ?_
   have hg : Gn k.l ⟨38, [], 0, at0 ob2, _, cap2⟩ k2.l _ (4 * (D + 1) + 1) := Gn.q rfl hrk (by decide) (by omega) hgs2
   refine ⟨_, sealG _ _ _ _ _, ⟨⟨38, [], 0, at0 ob2, _, cap2⟩, k2, q5, z2, _⟩, ⟨(hret 38 (by decide)), trivial, hg.le (s2 := 9 + 8 * (q5 - p)) (by omega) (by omega), hk2, ⟨by show p ≤ q5; omega, by show q5 ≤ _; omega⟩, fun w hw => ?_⟩, rfl, ⟨wkE_refl _, wkE_refl _, wkH_nil _⟩⟩
   obtain ⟨f1, f2, f3⟩ := hf2 w hw.1
   exact ⟨f1, treeF hg.tk hw.2.1 rfl f2, f3⟩
 ·have h5 := h4 (by decide)
  refine wXR ?_
  refine callG (hs g ok (2) (by omega) k kok q z h3 A hA) [0, 1] rfl ⟨rfl, rfl, trivial⟩ rfl fun j hj => ?_
  obtain ⟨l2, ob2, cap2, k2, q4, z2, F2⟩ := j
  obtain ⟨hj, hl2⟩ := hj
  have hl2 : l2.length = 2 := hl2
  have hle2 : q ≤ q4 ∧ q4 ≤ g.l.length := hj.le
  have hk2 : KdOk k2 := hj.kd
  have hgs2 : Gs k.l l2 k2.l (l2.length + 8 * (q4 - q)) (4 * (D + 1)) := Gs.le (s := l2.length + 8 * (q4 - q)) (d := 4 * (D + 1) - 1) hj.gs (Nat.le_refl _) (by omega)
  have hf2 : ∀ w, F2 w → A w ∧ (∀ t ∈ l2, TreeF w t) ∧ KnF k2 w := hj.f
  have hv2 : ∀ t ∈ l2, V .ex t := hj.v
  have hrk : RowK (at0 ob2) cap2 l2 := rowK hj.nil hj.cap
  obtain ⟨ta, tb, rfl⟩ := len_two hl2
  have hva := hv2 ta (List.mem_cons_self ..)
  have hvb := hv2 tb (List.mem_cons_of_mem _ (List.mem_singleton.2 rfl))
  refine wXR ?_
  refine RwN.known (intG [29, 30]) rfl fun rb => ?_
  refine wXR ?_
  refine callG (pick_c g ok q4 z2 2 ⟨by decide, by decide⟩ hle2.2 F2 (fun w hw => (hA w (hf2 w hw).1).1)) [0, 1] rfl ⟨rfl, rfl, trivial⟩ rfl fun i hi3 => ?_
  obtain ⟨u, q5⟩ := i
  obtain ⟨y1, y2, y3, y4⟩ := hi3
  have y1 : u < 2 := y1
  have y2 : q4 ≤ q5 := y2
  have y3 : q5 ≤ g.l.length := y3
  have y4 : u ≠ 0 → q4 < q5 := y4
  rcases (by omega : u = 0 ∨ u = 1) with rfl | rfl
  ·-- a kind out of a list; 29: the kind, 0: its place, (.and (.inl rfl) hva hvb): V, q5: numbers, 3: how many facts there are ahead of the list's
   refine wXR ?_
   refine Nd.mk ⟨rfl, by show (0 : Int) ≤ 0; decide, by show (0 : Int) < _; decide⟩ ?_
   refine wXR ?_
   refine LdN.one (.int .i64 29) rfl (fun w hw => hw.2.2.2.1) rfl ?_
   refine wXR ?_
   refine call1 (node_c _ _ _ _ _ _) ?_
   refine wXR ?_
   have hg : Gn k.l ⟨29, [], 0, at0 ob2, _, cap2⟩ k2.l _ (4 * (D + 1) + 1) := Gn.q rfl hrk (by decide) (by omega) hgs2
   refine ⟨_, sealG _ _ _ _ _, ⟨⟨29, [], 0, at0 ob2, _, cap2⟩, k2, q5, z2, _⟩, ⟨(.and (.inl rfl) hva hvb), trivial, hg.le (s2 := 9 + 8 * (q5 - p)) (by omega) (by omega), hk2, ⟨by show p ≤ q5; omega, by show q5 ≤ _; omega⟩, fun w hw => ?_⟩, rfl, ⟨wkE_refl _, wkE_refl _, wkH_nil _⟩⟩
   obtain ⟨f1, f2, f3⟩ := hf2 w hw.1
   exact ⟨f1, treeF hg.tk hw.2.1 rfl f2, f3⟩
  ·-- a kind out of a list; 30: the kind, 1: its place, (.and (.inr rfl) hva hvb): V, q5: numbers, 3: how many facts there are ahead of the list's
   refine wXR ?_
   refine Nd.mk ⟨rfl, by show (0 : Int) ≤ 1; decide, by show (1 : Int) < _; decide⟩ ?_
   refine wXR ?_
   refine LdN.one (.int .i64 30) rfl (fun w hw => hw.2.2.2.1) rfl ?_
   refine wXR ?_
   refine call1 (node_c _ _ _ _ _ _) ?_
   refine wXR ?_
   have hg : Gn k.l ⟨30, [], 0, at0 ob2, _, cap2⟩ k2.l _ (4 * (D + 1) + 1) := Gn.q rfl hrk (by decide) (by omega) hgs2
   refine ⟨_, sealG _ _ _ _ _, ⟨⟨30, [], 0, at0 ob2, _, cap2⟩, k2, q5, z2, _⟩, ⟨(.and (.inr rfl) hva hvb), trivial, hg.le (s2 := 9 + 8 * (q5 - p)) (by omega) (by omega), hk2, ⟨by show p ≤ q5; omega, by show q5 ≤ _; omega⟩, fun w hw => ?_⟩, rfl, ⟨wkE_refl _, wkE_refl _, wkH_nil _⟩⟩
   obtain ⟨f1, f2, f3⟩ := hf2 w hw.1
   exact ⟨f1, treeF hg.tk hw.2.1 rfl f2, f3⟩
 ·have h5 := h4 (by decide)
  refine wXR ?_
  refine callG (hs g ok (1) (by omega) k kok q z h3 A hA) [0, 1] rfl ⟨rfl, rfl, trivial⟩ rfl fun j hj => ?_
  obtain ⟨l2, ob2, cap2, k2, q4, z2, F2⟩ := j
  obtain ⟨hj, hl2⟩ := hj
  have hl2 : l2.length = 1 := hl2
  have hle2 : q ≤ q4 ∧ q4 ≤ g.l.length := hj.le
  have hk2 : KdOk k2 := hj.kd
  have hgs2 : Gs k.l l2 k2.l (l2.length + 8 * (q4 - q)) (4 * (D + 1)) := Gs.le (s := l2.length + 8 * (q4 - q)) (d := 4 * (D + 1) - 1) hj.gs (Nat.le_refl _) (by omega)
  have hf2 : ∀ w, F2 w → A w ∧ (∀ t ∈ l2, TreeF w t) ∧ KnF k2 w := hj.f
  have hv2 : ∀ t ∈ l2, V .ex t := hj.v
  have hrk : RowK (at0 ob2) cap2 l2 := rowK hj.nil hj.cap
  obtain ⟨ta, rfl⟩ := List.length_eq_one_iff.1 hl2
  have hva := hv2 ta (List.mem_singleton.2 rfl)
  refine wXR ?_
  refine call1 (node_c _ _ _ _ _ _) ?_
  refine wXR ?_
  have hg : Gn k.l ⟨31, [], 0, at0 ob2, _, cap2⟩ k2.l _ (4 * (D + 1) + 1) := Gn.q rfl hrk (by decide) (by omega) hgs2
  refine ⟨_, sealG _ _ _ _ _, ⟨⟨31, [], 0, at0 ob2, _, cap2⟩, k2, q4, z2, _⟩, ⟨(.not hva), trivial, hg.le (s2 := 9 + 8 * (q4 - p)) (by omega) (by omega), hk2, ⟨by show p ≤ q4; omega, by show q4 ≤ _; omega⟩, fun w hw => ?_⟩, rfl, ⟨wkE_refl _, wkE_refl _, wkH_nil _⟩⟩
  obtain ⟨f1, f2, f3⟩ := hf2 w hw.1
  exact ⟨f1, treeF hg.tk hw.2.1 rfl f2, f3⟩
 ·have h5 := h4 (by decide)
  refine wXR ?_
  refine callG (ha g ok true k kok q z h3 A hA) [0, 1] rfl ⟨rfl, rfl, trivial⟩ rfl fun j hj => ?_
  obtain ⟨l2, b2, a2, cap2, k2, q4, z2, F2⟩ := j
  have hle2 : q ≤ q4 ∧ q4 ≤ g.l.length := hj.le
  have hgs2 : Gs k.l (l2 ++ b2) k2.l (8 * (q4 - q)) (4 * (D + 1) + 1) := hj.gs
  refine wXR ?_
  refine call1 (node_c _ _ _ _ _ _) ?_
  refine wXR ?_
  have hg : Gn k.l ⟨19, [], 0, a2, l2 ++ b2, cap2⟩ k2.l (8 * (q4 - q) + 1) (4 * (D + 1) + 2) := Gn.q rfl hj.row (Nat.zero_le _) (by omega) hgs2
  refine ⟨_, sealG _ _ _ _ _, ⟨⟨19, [], 0, a2, l2 ++ b2, cap2⟩, k2, q4, z2, _⟩, ⟨(V.super (l := l2) (b := b2) hj.vl hj.vb hj.b1), trivial, hg.le (s2 := 9 + 8 * (q4 - p)) (by omega) (by omega), hj.kd, ⟨by show p ≤ q4; omega, hle2.2⟩, fun w hw => ?_⟩, rfl, ⟨wkE_refl _, wkE_refl _, wkH_nil _⟩⟩
  obtain ⟨f1, f2, f3⟩ := hj.f w hw.1
  exact ⟨f1, treeF hg.tk f2.1 rfl f2.2, f3⟩
 ·have h5 := h4 (by decide)
  refine wXR ?_
  refine callG (ha g ok false k kok q z h3 A hA) [0, 1] rfl ⟨rfl, rfl, trivial⟩ rfl fun j hj => ?_
  obtain ⟨l2, b2, a2, cap2, k2, q4, z2, F2⟩ := j
  obtain rfl : b2 = [] := hj.nb rfl
  have hle2 : q ≤ q4 ∧ q4 ≤ g.l.length := hj.le
  have hgs2 : Gs k.l (l2 ++ []) k2.l (8 * (q4 - q)) (4 * (D + 1) + 1) := hj.gs
  have hva : ∀ t ∈ l2 ++ [], V .arg t := by rw [List.append_nil]; exact hj.vl
  refine wXR ?_
  refine RwN.known (intG [8, 21]) rfl fun rb => ?_
  refine wXR ?_
  refine callG (pick_c g ok q4 z2 2 ⟨by decide, by decide⟩ hle2.2 F2 (fun w hw => hA1 w (hj.f w hw).1)) [0, 1] rfl ⟨rfl, rfl, trivial⟩ rfl fun i hi3 => ?_
  obtain ⟨u, q5⟩ := i
  obtain ⟨y1, y2, y3, y4⟩ := hi3
  have y1 : u < 2 := y1
  have y2 : q4 ≤ q5 := y2
  have y3 : q5 ≤ g.l.length := y3
  have y4 : u ≠ 0 → q4 < q5 := y4
  rcases (by omega : u = 0 ∨ u = 1) with rfl | rfl
  ·-- an Array or a Yield; 8: op, 0: its place, (.args (.inl rfl) hva): V
   refine wXR ?_
   refine Nd.mk ⟨rfl, by show (0 : Int) ≤ 0; decide, by show (0 : Int) < _; decide⟩ ?_
   refine wXR ?_
   refine LdN.one (.int .i64 8) rfl (fun w hw => hw.2.2.1) rfl ?_
   refine wXR ?_
   refine call1 (node_c _ _ _ _ _ _) ?_
   refine wXR ?_
   have hg : Gn k.l ⟨8, [], 0, a2, l2 ++ [], cap2⟩ k2.l (8 * (q4 - q) + 1) (4 * (D + 1) + 2) := Gn.q rfl hj.row (Nat.zero_le _) (by omega) hgs2
   refine ⟨_, sealG _ _ _ _ _, ⟨⟨8, [], 0, a2, l2 ++ [], cap2⟩, k2, q5, z2, _⟩, ⟨(.args (.inl rfl) hva), trivial, hg.le (s2 := 9 + 8 * (q5 - p)) (by omega) (by omega), hj.kd, ⟨by show p ≤ q5; omega, y3⟩, fun w hw => ?_⟩, rfl, ⟨wkE_refl _, wkE_refl _, wkH_nil _⟩⟩
   obtain ⟨f1, f2, f3⟩ := hj.f w hw.1
   exact ⟨f1, treeF hg.tk f2.1 rfl f2.2, f3⟩
  ·-- an Array or a Yield; 21: op, 1: its place, (.args (.inr rfl) hva): V
   refine wXR ?_
   refine Nd.mk ⟨rfl, by show (0 : Int) ≤ 1; decide, by show (1 : Int) < _; decide⟩ ?_
   refine wXR ?_
   refine LdN.one (.int .i64 21) rfl (fun w hw => hw.2.2.1) rfl ?_
   refine wXR ?_
   refine call1 (node_c _ _ _ _ _ _) ?_
   refine wXR ?_
   have hg : Gn k.l ⟨21, [], 0, a2, l2 ++ [], cap2⟩ k2.l (8 * (q4 - q) + 1) (4 * (D + 1) + 2) := Gn.q rfl hj.row (Nat.zero_le _) (by omega) hgs2
   refine ⟨_, sealG _ _ _ _ _, ⟨⟨21, [], 0, a2, l2 ++ [], cap2⟩, k2, q5, z2, _⟩, ⟨(.args (.inr rfl) hva), trivial, hg.le (s2 := 9 + 8 * (q5 - p)) (by omega) (by omega), hj.kd, ⟨by show p ≤ q5; omega, y3⟩, fun w hw => ?_⟩, rfl, ⟨wkE_refl _, wkE_refl _, wkH_nil _⟩⟩
   obtain ⟨f1, f2, f3⟩ := hj.f w hw.1
   exact ⟨f1, treeF hg.tk f2.1 rfl f2.2, f3⟩
 ·have h5 := h4 (by decide)
  refine wXR ?_
  refine callG (pick_c g ok q z 3 ⟨by decide, by decide⟩ h3 A hA1) [0, 1] rfl ⟨rfl, rfl, trivial⟩ rfl fun i hi3 => ?_
  obtain ⟨y, q2⟩ := i
  obtain ⟨y1, y2, y3, y4⟩ := hi3
  have y1 : y < 3 := y1
  have y2 : q ≤ q2 := y2
  have y3 : q2 ≤ g.l.length := y3
  have y4 : y ≠ 0 → q < q2 := y4
  have hyw : IntKind.i64.wrap (2 * (y : Int)) = ((2 * y : Nat) : Int) := by rw [wrap_i64 (by omega)]; omega
  refine wXR ?_
  refine SpecH.args (args' := pvs [gP g, .int .i64 ((2 * y : Nat) : Int), .int .i64 ((D + 1 : Nat) : Int), knV k]) (by show pvs [gP g, .int .i64 (IntKind.i64.wrap (2 * (y : Int))), .int .i64 ((D + 1 : Nat) : Int), knV k] = _; rw [hyw]) ?_
  refine callG (hs g ok (2 * y) (by omega) k kok q2 z y3 A hA) [0, 1] rfl ⟨rfl, rfl, trivial⟩ rfl fun j hj => ?_
  obtain ⟨l2, ob2, cap2, k2, q4, z2, F2⟩ := j
  obtain ⟨hj, hl2⟩ := hj
  have hl2 : l2.length = 2 * y := hl2
  have hle2 : q2 ≤ q4 ∧ q4 ≤ g.l.length := hj.le
  have hk2 : KdOk k2 := hj.kd
  have hgs2 : Gs k.l l2 k2.l (l2.length + 8 * (q4 - q2)) (4 * (D + 1)) := Gs.le (s := l2.length + 8 * (q4 - q2)) (d := 4 * (D + 1) - 1) hj.gs (Nat.le_refl _) (by omega)
  have hf2 : ∀ w, F2 w → A w ∧ (∀ t ∈ l2, TreeF w t) ∧ KnF k2 w := hj.f
  have hv2 : ∀ t ∈ l2, V .ex t := hj.v
  have hrk : RowK (at0 ob2) cap2 l2 := rowK hj.nil hj.cap
  refine wXR ?_
  refine call1 (node_c _ _ _ _ _ _) ?_
  refine wXR ?_
  have y5 : 4 * y ≤ 8 * (q2 - q) := by
   by_cases h : y = 0
   ·omega
   ·have := y4 h; omega
  have hg : Gn k.l ⟨9, [], 0, at0 ob2, _, cap2⟩ k2.l _ (4 * (D + 1) + 1) := Gn.q rfl hrk (by decide) (by omega) hgs2
  refine ⟨_, sealG _ _ _ _ _, ⟨⟨9, [], 0, at0 ob2, _, cap2⟩, k2, q4, z2, _⟩, ⟨(.hash (by omega) hv2), trivial, hg.le (s2 := 9 + 8 * (q4 - p)) (by omega) (by omega), hk2, ⟨by show p ≤ q4; omega, by show q4 ≤ _; omega⟩, fun w hw => ?_⟩, rfl, ⟨wkE_refl _, wkE_refl _, wkH_nil _⟩⟩
  obtain ⟨f1, f2, f3⟩ := hf2 w hw.1
  exact ⟨f1, treeF hg.tk hw.2.1 rfl f2, f3⟩
 ·have h5 := h4 (by decide)
  refine wXR ?_
  refine callG (hs g ok (1) (by omega) k kok q z h3 A hA) [0, 1] rfl ⟨rfl, rfl, trivial⟩ rfl fun j hj => ?_
  obtain ⟨l2, ob2, cap2, k2, q4, z2, F2⟩ := j
  obtain ⟨hj, hl2⟩ := hj
  have hl2 : l2.length = 1 := hl2
  have hle2 : q ≤ q4 ∧ q4 ≤ g.l.length := hj.le
  have hk2 : KdOk k2 := hj.kd
  have hgs2 : Gs k.l l2 k2.l (l2.length + 8 * (q4 - q)) (4 * (D + 1)) := Gs.le (s := l2.length + 8 * (q4 - q)) (d := 4 * (D + 1) - 1) hj.gs (Nat.le_refl _) (by omega)
  have hf2 : ∀ w, F2 w → A w ∧ (∀ t ∈ l2, TreeF w t) ∧ KnF k2 w := hj.f
  have hv2 : ∀ t ∈ l2, V .ex t := hj.v
  have hrk : RowK (at0 ob2) cap2 l2 := rowK hj.nil hj.cap
  obtain ⟨ta, rfl⟩ := List.length_eq_one_iff.1 hl2
  have hva := hv2 ta (List.mem_singleton.2 rfl)
  refine wXR ?_
  refine callG (pick_c g ok q4 z2 3 ⟨by decide, by decide⟩ hle2.2 F2 (fun w hw => hA1 w (hf2 w hw).1)) [0, 1] rfl ⟨rfl, rfl, trivial⟩ rfl fun i hi3 => ?_
  obtain ⟨u, q5⟩ := i
  obtain ⟨y1, y2, y3, y4⟩ := hi3
  have y1 : u < 3 := y1
  have y2 : q4 ≤ q5 := y2
  have y3 : q5 ≤ g.l.length := y3
  have y4 : u ≠ 0 → q4 < q5 := y4
  rcases (by omega : u = 0 ∨ u = 1 ∨ u = 2) with rfl | rfl | rfl
  ·-- the kind and the name that a number chooses; 13: op, [64, 97]: name, (.seti icC.2.2.2 hva): V, 0: the number
   refine wXR ?_
   refine DrawN.tree [1, 5, 8, 10] (.cons 0 (.cons 2 (.cons 3 (.cons 4 (.cons 6 (.cons 7 (.cons 9 (.cons 11 (.cons 12 .nil .nil) .nil) .nil) .nil) .nil) .nil) (.cons 4 (.cons 3 (.cons 6 (.cons 7 (.cons 9 (.cons 11 (.cons 12 .nil .nil) .nil) .nil) .nil) .nil) (.cons 6 (.cons 3 (.cons 7 (.cons 9 (.cons 11 (.cons 12 .nil .nil) .nil) .nil) .nil) (.cons 7 (.cons 3 (.cons 9 (.cons 11 (.cons 12 .nil .nil) .nil) .nil) .nil) .nil)) .nil)) .nil)) (.cons 4 (.cons 2 (.cons 3 (.cons 6 (.cons 7 (.cons 9 (.cons 11 (.cons 12 .nil .nil) .nil) .nil) .nil) .nil) (.cons 6 (.cons 3 (.cons 7 (.cons 9 (.cons 11 (.cons 12 .nil .nil) .nil) .nil) .nil) (.cons 7 (.cons 3 (.cons 9 (.cons 11 (.cons 12 .nil .nil) .nil) .nil) .nil) .nil)) .nil)) (.cons 6 (.cons 2 (.cons 3 (.cons 7 (.cons 9 (.cons 11 (.cons 12 .nil .nil) .nil) .nil) .nil) (.cons 7 (.cons 3 (.cons 9 (.cons 11 (.cons 12 .nil .nil) .nil) .nil) .nil) .nil)) (.cons 7 (.cons 2 (.cons 3 (.cons 9 (.cons 11 (.cons 12 .nil .nil) .nil) .nil) .nil) .nil) .nil)) .nil)) .nil)) (.cons 4 (.cons 0 (.cons 2 (.cons 3 (.cons 6 (.cons 7 (.cons 9 (.cons 11 (.cons 12 .nil .nil) .nil) .nil) .nil) .nil) (.cons 6 (.cons 3 (.cons 7 (.cons 9 (.cons 11 (.cons 12 .nil .nil) .nil) .nil) .nil) (.cons 7 (.cons 3 (.cons 9 (.cons 11 (.cons 12 .nil .nil) .nil) .nil) .nil) .nil)) .nil)) (.cons 6 (.cons 2 (.cons 3 (.cons 7 (.cons 9 (.cons 11 (.cons 12 .nil .nil) .nil) .nil) .nil) (.cons 7 (.cons 3 (.cons 9 (.cons 11 (.cons 12 .nil .nil) .nil) .nil) .nil) .nil)) (.cons 7 (.cons 2 (.cons 3 (.cons 9 (.cons 11 (.cons 12 .nil .nil) .nil) .nil) .nil) .nil) .nil)) .nil)) (.cons 6 (.cons 0 (.cons 2 (.cons 3 (.cons 7 (.cons 9 (.cons 11 (.cons 12 .nil .nil) .nil) .nil) .nil) (.cons 7 (.cons 3 (.cons 9 (.cons 11 (.cons 12 .nil .nil) .nil) .nil) .nil) .nil)) (.cons 7 (.cons 2 (.cons 3 (.cons 9 (.cons 11 (.cons 12 .nil .nil) .nil) .nil) .nil) .nil) .nil)) (.cons 7 (.cons 0 (.cons 2 (.cons 3 (.cons 9 (.cons 11 (.cons 12 .nil .nil) .nil) .nil) .nil) .nil) .nil) .nil)) .nil)) .nil)) 9 (by decide +kernel) ?_
   (conv => whnf)
   repeat' (first | (refine And.intro ?_ ?_ <;> (conv => whnf)) | (refine RwN.own ?_; conv => whnf) | (refine Nd.mk (by first | decide +kernel | omega | exact ⟨by show (0 : Int) ≤ 0; decide, by show (0 : Int) < _; decide⟩) ?_; conv => whnf) | (refine call1 (node_c _ _ _ _ _ _) ?_; conv => whnf) | (refine VrN.keep ?_; conv => whnf) | (refine RdN.intro _ rfl (by rfl) ?_; conv => whnf))
   all_goals
    have hg : Gn k.l ⟨13, [64, 97], 0, at0 ob2, _, cap2⟩ k2.l _ (4 * (D + 1) + 1) := Gn.q rfl hrk (by decide) (by omega) hgs2
    refine ⟨_, sealG _ _ _ _ _, ⟨⟨13, [64, 97], 0, at0 ob2, _, cap2⟩, k2, q5, z2, _⟩, ⟨(.seti icC.2.2.2 hva), trivial, hg.le (s2 := 9 + 8 * (q5 - p)) (by omega) (by omega), hk2, ⟨by show p ≤ q5; omega, by show q5 ≤ _; omega⟩, fun w hw => ?_⟩, rfl, ⟨wkE_refl _, wkE_refl _, wkH_nil _⟩⟩
    obtain ⟨f1, f2, f3⟩ := hf2 w hw.1
    exact ⟨f1, treeF hg.tk hw.2.1 rfl f2, f3⟩
  ·-- the kind and the name that a number chooses; 16: op, [67]: name, (.scope (.inr rfl) icC.1 hva): V, 1: the number
   refine wXR ?_
   refine DrawN.tree [1, 5, 8, 10] (.cons 0 (.cons 2 (.cons 3 (.cons 4 (.cons 6 (.cons 7 (.cons 9 (.cons 11 (.cons 12 .nil .nil) .nil) .nil) .nil) .nil) .nil) (.cons 4 (.cons 3 (.cons 6 (.cons 7 (.cons 9 (.cons 11 (.cons 12 .nil .nil) .nil) .nil) .nil) .nil) (.cons 6 (.cons 3 (.cons 7 (.cons 9 (.cons 11 (.cons 12 .nil .nil) .nil) .nil) .nil) (.cons 7 (.cons 3 (.cons 9 (.cons 11 (.cons 12 .nil .nil) .nil) .nil) .nil) .nil)) .nil)) .nil)) (.cons 4 (.cons 2 (.cons 3 (.cons 6 (.cons 7 (.cons 9 (.cons 11 (.cons 12 .nil .nil) .nil) .nil) .nil) .nil) (.cons 6 (.cons 3 (.cons 7 (.cons 9 (.cons 11 (.cons 12 .nil .nil) .nil) .nil) .nil) (.cons 7 (.cons 3 (.cons 9 (.cons 11 (.cons 12 .nil .nil) .nil) .nil) .nil) .nil)) .nil)) (.cons 6 (.cons 2 (.cons 3 (.cons 7 (.cons 9 (.cons 11 (.cons 12 .nil .nil) .nil) .nil) .nil) (.cons 7 (.cons 3 (.cons 9 (.cons 11 (.cons 12 .nil .nil) .nil) .nil) .nil) .nil)) (.cons 7 (.cons 2 (.cons 3 (.cons 9 (.cons 11 (.cons 12 .nil .nil) .nil) .nil) .nil) .nil) .nil)) .nil)) .nil)) (.cons 4 (.cons 0 (.cons 2 (.cons 3 (.cons 6 (.cons 7 (.cons 9 (.cons 11 (.cons 12 .nil .nil) .nil) .nil) .nil) .nil) (.cons 6 (.cons 3 (.cons 7 (.cons 9 (.cons 11 (.cons 12 .nil .nil) .nil) .nil) .nil) (.cons 7 (.cons 3 (.cons 9 (.cons 11 (.cons 12 .nil .nil) .nil) .nil) .nil) .nil)) .nil)) (.cons 6 (.cons 2 (.cons 3 (.cons 7 (.cons 9 (.cons 11 (.cons 12 .nil .nil) .nil) .nil) .nil) (.cons 7 (.cons 3 (.cons 9 (.cons 11 (.cons 12 .nil .nil) .nil) .nil) .nil) .nil)) (.cons 7 (.cons 2 (.cons 3 (.cons 9 (.cons 11 (.cons 12 .nil .nil) .nil) .nil) .nil) .nil) .nil)) .nil)) (.cons 6 (.cons 0 (.cons 2 (.cons 3 (.cons 7 (.cons 9 (.cons 11 (.cons 12 .nil .nil) .nil) .nil) .nil) (.cons 7 (.cons 3 (.cons 9 (.cons 11 (.cons 12 .nil .nil) .nil) .nil) .nil) .nil)) (.cons 7 (.cons 2 (.cons 3 (.cons 9 (.cons 11 (.cons 12 .nil .nil) .nil) .nil) .nil) .nil) .nil)) (.cons 7 (.cons 0 (.cons 2 (.cons 3 (.cons 9 (.cons 11 (.cons 12 .nil .nil) .nil) .nil) .nil) .nil) .nil) .nil)) .nil)) .nil)) 9 (by decide +kernel) ?_
   (conv => whnf)
   repeat' (first | (refine And.intro ?_ ?_ <;> (conv => whnf)) | (refine RwN.own ?_; conv => whnf) | (refine Nd.mk (by first | decide +kernel | omega | exact ⟨by show (0 : Int) ≤ 1; decide, by show (1 : Int) < _; decide⟩) ?_; conv => whnf) | (refine call1 (node_c _ _ _ _ _ _) ?_; conv => whnf) | (refine VrN.keep ?_; conv => whnf) | (refine RdN.intro _ rfl (by rfl) ?_; conv => whnf))
   all_goals
    have hg : Gn k.l ⟨16, [67], 0, at0 ob2, _, cap2⟩ k2.l _ (4 * (D + 1) + 1) := Gn.q rfl hrk (by decide) (by omega) hgs2
    refine ⟨_, sealG _ _ _ _ _, ⟨⟨16, [67], 0, at0 ob2, _, cap2⟩, k2, q5, z2, _⟩, ⟨(.scope (.inr rfl) icC.1 hva), trivial, hg.le (s2 := 9 + 8 * (q5 - p)) (by omega) (by omega), hk2, ⟨by show p ≤ q5; omega, by show q5 ≤ _; omega⟩, fun w hw => ?_⟩, rfl, ⟨wkE_refl _, wkE_refl _, wkH_nil _⟩⟩
    obtain ⟨f1, f2, f3⟩ := hf2 w hw.1
    exact ⟨f1, treeF hg.tk hw.2.1 rfl f2, f3⟩
  ·-- the kind and the name that a number chooses; 15: op, [68]: name, (.scope (.inl rfl) icC.2.1 hva): V, 2: the number
   refine wXR ?_
   refine DrawN.tree [1, 5, 8, 10] (.cons 0 (.cons 2 (.cons 3 (.cons 4 (.cons 6 (.cons 7 (.cons 9 (.cons 11 (.cons 12 .nil .nil) .nil) .nil) .nil) .nil) .nil) (.cons 4 (.cons 3 (.cons 6 (.cons 7 (.cons 9 (.cons 11 (.cons 12 .nil .nil) .nil) .nil) .nil) .nil) (.cons 6 (.cons 3 (.cons 7 (.cons 9 (.cons 11 (.cons 12 .nil .nil) .nil) .nil) .nil) (.cons 7 (.cons 3 (.cons 9 (.cons 11 (.cons 12 .nil .nil) .nil) .nil) .nil) .nil)) .nil)) .nil)) (.cons 4 (.cons 2 (.cons 3 (.cons 6 (.cons 7 (.cons 9 (.cons 11 (.cons 12 .nil .nil) .nil) .nil) .nil) .nil) (.cons 6 (.cons 3 (.cons 7 (.cons 9 (.cons 11 (.cons 12 .nil .nil) .nil) .nil) .nil) (.cons 7 (.cons 3 (.cons 9 (.cons 11 (.cons 12 .nil .nil) .nil) .nil) .nil) .nil)) .nil)) (.cons 6 (.cons 2 (.cons 3 (.cons 7 (.cons 9 (.cons 11 (.cons 12 .nil .nil) .nil) .nil) .nil) (.cons 7 (.cons 3 (.cons 9 (.cons 11 (.cons 12 .nil .nil) .nil) .nil) .nil) .nil)) (.cons 7 (.cons 2 (.cons 3 (.cons 9 (.cons 11 (.cons 12 .nil .nil) .nil) .nil) .nil) .nil) .nil)) .nil)) .nil)) (.cons 4 (.cons 0 (.cons 2 (.cons 3 (.cons 6 (.cons 7 (.cons 9 (.cons 11 (.cons 12 .nil .nil) .nil) .nil) .nil) .nil) (.cons 6 (.cons 3 (.cons 7 (.cons 9 (.cons 11 (.cons 12 .nil .nil) .nil) .nil) .nil) (.cons 7 (.cons 3 (.cons 9 (.cons 11 (.cons 12 .nil .nil) .nil) .nil) .nil) .nil)) .nil)) (.cons 6 (.cons 2 (.cons 3 (.cons 7 (.cons 9 (.cons 11 (.cons 12 .nil .nil) .nil) .nil) .nil) (.cons 7 (.cons 3 (.cons 9 (.cons 11 (.cons 12 .nil .nil) .nil) .nil) .nil) .nil)) (.cons 7 (.cons 2 (.cons 3 (.cons 9 (.cons 11 (.cons 12 .nil .nil) .nil) .nil) .nil) .nil) .nil)) .nil)) (.cons 6 (.cons 0 (.cons 2 (.cons 3 (.cons 7 (.cons 9 (.cons 11 (.cons 12 .nil .nil) .nil) .nil) .nil) (.cons 7 (.cons 3 (.cons 9 (.cons 11 (.cons 12 .nil .nil) .nil) .nil) .nil) .nil)) (.cons 7 (.cons 2 (.cons 3 (.cons 9 (.cons 11 (.cons 12 .nil .nil) .nil) .nil) .nil) .nil) .nil)) (.cons 7 (.cons 0 (.cons 2 (.cons 3 (.cons 9 (.cons 11 (.cons 12 .nil .nil) .nil) .nil) .nil) .nil) .nil) .nil)) .nil)) .nil)) 9 (by decide +kernel) ?_
   (conv => whnf)
   repeat' (first | (refine And.intro ?_ ?_ <;> (conv => whnf)) | (refine RwN.own ?_; conv => whnf) | (refine Nd.mk (by first | decide +kernel | omega | exact ⟨by show (0 : Int) ≤ 2; decide, by show (2 : Int) < _; decide⟩) ?_; conv => whnf) | (refine call1 (node_c _ _ _ _ _ _) ?_; conv => whnf) | (refine VrN.keep ?_; conv => whnf) | (refine RdN.intro _ rfl (by rfl) ?_; conv => whnf))
   all_goals
    have hg : Gn k.l ⟨15, [68], 0, at0 ob2, _, cap2⟩ k2.l _ (4 * (D + 1) + 1) := Gn.q rfl hrk (by decide) (by omega) hgs2
    refine ⟨_, sealG _ _ _ _ _, ⟨⟨15, [68], 0, at0 ob2, _, cap2⟩, k2, q5, z2, _⟩, ⟨(.scope (.inl rfl) icC.2.1 hva), trivial, hg.le (s2 := 9 + 8 * (q5 - p)) (by omega) (by omega), hk2, ⟨by show p ≤ q5; omega, by show q5 ≤ _; omega⟩, fun w hw => ?_⟩, rfl, ⟨wkE_refl _, wkE_refl _, wkH_nil _⟩⟩
    obtain ⟨f1, f2, f3⟩ := hf2 w hw.1
    exact ⟨f1, treeF hg.tk hw.2.1 rfl f2, f3⟩
 ·have h5 := h4 (by decide)
  refine wX ?_
  refine callG (hq g ok k (by assumption) q z h3 A hA) [0, 1] rfl ⟨rfl, rfl, trivial⟩ rfl fun j6 hj6 => ?_
  obtain ⟨s6, k6, q6, z6, F6⟩ := j6
  have hls6 : q ≤ q6 ∧ q6 ≤ g.l.length := hj6.le
  have hgq6 : Gn k.l s6 k6.l (1 + 8 * (q6 - q)) (4 * (D + 1)) := hj6.gn
  have hks6 : KdOk k6 := hj6.kd
  have hvs6 : V .ex s6 := hj6.v
  have hos6 : s6.op = 26 := hj6.q
  have hfs6 : ∀ w, F6 w → A w ∧ TreeF w s6 ∧ KnF k6 w := hj6.f
  refine wXR ?_
  refine RwN.known (nodesC [s6]) rfl fun nb => ?_
  refine wXR ?_
  refine callG (pick_c g ok q6 z6 2 ⟨by decide, by decide⟩ hls6.2 F6 (fun w hw => hA1 w (hfs6 w hw).1)) [0, 1] rfl ⟨rfl, rfl, trivial⟩ rfl fun i hi3 => ?_
  obtain ⟨u, q5⟩ := i
  obtain ⟨y1, y2, y3, y4⟩ := hi3
  have y1 : u < 2 := y1
  have y2 : q6 ≤ q5 := y2
  have y3 : q5 ≤ g.l.length := y3
  have y4 : u ≠ 0 → q6 < q5 := y4
  refine wXR ?_
  refine brd_eq (fun h6 => ?_) (fun h6 => ?_)
  ·have y5 := y4 (by omega)
   refine wXR ?_
   refine call1 (node_c _ _ _ _ _ _) ?_
   refine wXR ?_
   refine RwN.known (nodesC [⟨5, [97, 34, 98], 0, none, [], 0⟩]) rfl fun sb => ?_
   refine wXR ?_
   refine call1 (node_c _ _ _ _ _ _) ?_
   refine wXR ?_
   refine RwN.own ?_
   refine wXR ?_
   try refine Nd.mk ⟨Nat.le_refl 1, rfl, rfl⟩ ?_
   (conv => whnf)
   refine AppN.grow 4 (nodesC [s6]) (nodeC ⟨5, [99], 0, none, [], 0⟩) rfl rfl ⟨Nat.le_refl 1, ⟨by show (1 + 1) * 56 ≤ _; omega, by show 1 + 1 < _; omega⟩, by decide⟩ fun b7 c7 g17 g27 => ?_
   refine wXR ?_
   refine app_any (n := 1) (m := 2) 5 (nodesC [⟨5, [97, 34, 98], 0, none, [], 0⟩]) (nodesC [s6, ⟨5, [99], 0, none, [], 0⟩]) rfl (Nat.le_refl 1) (fun _ => rfl) (nodesC_len _) (nodesC_plain _) (fun w hw j v hv => (hw.2.2.1 : SlAt (some ⟨b7, 0, none⟩) (2 * 4) (nodesC [s6, ⟨5, [99], 0, none, [], 0⟩]) w).cell hv) ⟨⟨by show (1 + 2) * 56 ≤ _; omega, by show 1 + 2 < _; omega⟩, by decide⟩ fun b8 c8 g8 => ?_
   refine wXR ?_
   refine call1 (node_c _ _ _ _ _ _) ?_
   refine wXR ?_
   have ha5 : Gn k.l ⟨5, [97, 34, 98], 0, none, [], 0⟩ k.l 1 (4 * (D + 1)) := (Gn.leaf (d := 0) rfl (by decide)).le (Nat.le_refl _) (by omega)
   have hc5 : Gn k6.l ⟨5, [99], 0, none, [], 0⟩ k6.l 1 (4 * (D + 1)) := (Gn.leaf (d := 0) rfl (by decide)).le (Nat.le_refl _) (by omega)
   have hg : Gn k.l ⟨7, [], 0, some ⟨b8, 0, none⟩, [⟨5, [97, 34, 98], 0, none, [], 0⟩, s6, ⟨5, [99], 0, none, [], 0⟩], c8⟩ k6.l (1 + (1 + 8 * (q6 - q) + 1) + 1) (4 * (D + 1) + 1) := Gn.q rfl (.some g8) (Nat.zero_le _) (by omega) (Gs.cons ha5 (Gs.cons hgq6 hc5.s))
   refine ⟨_, sealG _ _ _ _ _, ⟨⟨7, [], 0, some ⟨b8, 0, none⟩, [⟨5, [97, 34, 98], 0, none, [], 0⟩, s6, ⟨5, [99], 0, none, [], 0⟩], c8⟩, k6, q5, z6, _⟩, ⟨.dstr3 hvs6 hos6 (by decide) (by decide), trivial, hg.le (s2 := 9 + 8 * (q5 - p)) (by omega) (by omega), hks6, ⟨by show p ≤ q5; omega, y3⟩, fun w hw => ?_⟩, rfl, ⟨wkE_refl _, wkE_refl _, wkH_nil _⟩⟩
   obtain ⟨f1, f2, f3⟩ := hfs6 w hw.1
   exact ⟨f1, treeF hg.tk hw.2.2.1 rfl (allC (f0 ha5.tk rfl) (two_mem f2 (f0 hc5.tk rfl))), f3⟩
  ·refine wXR ?_
   refine call1 (node_c _ _ _ _ _ _) ?_
   refine wXR ?_
   have hg : Gn k.l ⟨7, [], 0, some ⟨nb, 0, none⟩, [s6], 1⟩ k6.l (1 + 8 * (q6 - q) + 1) (4 * (D + 1) + 1) := Gn.q rfl (.some (Nat.le_refl 1)) (Nat.zero_le _) (by omega) hgq6.s
   refine ⟨_, sealG _ _ _ _ _, ⟨⟨7, [], 0, some ⟨nb, 0, none⟩, [s6], 1⟩, k6, q5, z6, _⟩, ⟨.dstr1 hvs6 hos6, trivial, hg.le (s2 := 9 + 8 * (q5 - p)) (by omega) (by omega), hks6, ⟨by show p ≤ q5; omega, y3⟩, fun w hw => ?_⟩, rfl, ⟨wkE_refl _, wkE_refl _, wkH_nil _⟩⟩
   obtain ⟨f1, f2, f3⟩ := hfs6 w hw.1
   exact ⟨f1, treeF hg.tk hw.2.1 rfl (one_mem f2), f3⟩
 ·have h5 := h4 (by decide)
  refine wXR ?_
  refine RwN.known (strsC aliL) rfl fun rbx => ?_
  refine wXR ?_
  refine SpecH.shut 3 rfl ?_
  refine callG (text_c g ok q z h3 A _ (fun w hw => (hA w hw).1) (some ⟨rbx, 0, none⟩) aliL _ ⟨by decide, by decide⟩ rfl (fun w hw => hw)) [0, 1, 3] rfl ⟨rfl, rfl, rfl, trivial⟩ rfl fun i hi2 => ?_
  obtain ⟨x, q2⟩ := i
  obtain ⟨hmx, hqx, hrx⟩ := hi2
  have hmx : x ∈ aliL := hmx
  have hqx : q ≤ q2 := hqx
  have hrx : q2 ≤ g.l.length := hrx
  have hxv := aliL_v x hmx
  refine wXR ?_
  refine RwN.known (strsC barL) rfl fun rby => ?_
  refine wXR ?_
  refine SpecH.shut 4 rfl ?_
  refine callG (text_c g ok q2 z hrx A _ (fun w hw => (hA w hw).1) (some ⟨rby, 0, none⟩) barL _ ⟨by decide, by decide⟩ rfl (fun w hw => hw)) [0, 1, 4] rfl ⟨rfl, rfl, rfl, trivial⟩ rfl fun i hi2 => ?_
  obtain ⟨y, q3⟩ := i
  obtain ⟨hmy, hqy, hry⟩ := hi2
  have hmy : y ∈ barL := hmy
  have hqy : q2 ≤ q3 := hqy
  have hry : q3 ≤ g.l.length := hry
  have hyv := barL_v y hmy
  refine wXR ?_
  refine call1 (node_c _ _ _ _ _ _) ?_
  refine wXR ?_
  have hgy : Gn k.l ⟨6, y, 0, none, [], 0⟩ k.l 1 1 := Gn.leaf (d := 0) rfl hyv.2
  refine RwN.known (nodesC [⟨6, y, 0, none, [], 0⟩]) rfl fun nb => ?_
  refine wXR ?_
  refine call1 (node_c _ _ _ _ _ _) ?_
  refine wXR ?_
  have hg : Gn k.l ⟨43, x, 0, some ⟨nb, 0, none⟩, [⟨6, y, 0, none, [], 0⟩], 1⟩ k.l 2 2 := Gn.q (s := 1) (d := 1) rfl (.some (Nat.le_refl 1)) hxv.2 (by omega) hgy.s
  refine ⟨_, sealG _ _ _ _ _, ⟨⟨43, x, 0, some ⟨nb, 0, none⟩, [⟨6, y, 0, none, [], 0⟩], 1⟩, k, q3, z, _⟩, ⟨.alias hxv.1 hyv.1, trivial, hg.le (s2 := 9 + 8 * (q3 - p)) (by omega) (by omega), kok, ⟨by show p ≤ q3; omega, hry⟩, fun w hw => ⟨hw.1, treeF hg.tk hw.2.2.2.1 rfl (one_mem (f0 hgy.tk rfl)), (hA w hw.1).2⟩⟩, rfl, ⟨wkE_refl _, wkE_refl _, wkH_nil _⟩⟩
 ·have h5 := h4 (by decide)
  refine wXR ?_
  refine RwN.known (strsC undL) rfl fun rbx => ?_
  refine wXR ?_
  refine SpecH.shut 3 rfl ?_
  refine callG (text_c g ok q z h3 A _ (fun w hw => (hA w hw).1) (some ⟨rbx, 0, none⟩) undL _ ⟨by decide, by decide⟩ rfl (fun w hw => hw)) [0, 1, 3] rfl ⟨rfl, rfl, rfl, trivial⟩ rfl fun i hi2 => ?_
  obtain ⟨x, q2⟩ := i
  obtain ⟨hmx, hqx, hrx⟩ := hi2
  have hmx : x ∈ undL := hmx
  have hqx : q ≤ q2 := hqx
  have hrx : q2 ≤ g.l.length := hrx
  have hxv := undL_v x hmx
  refine wXR ?_
  refine call1 (node_c _ _ _ _ _ _) ?_
  refine wXR ?_
  have hg : Gn k.l ⟨44, x, 0, none, [], 0⟩ k.l 1 1 := Gn.leaf (d := 0) rfl hxv.2
  refine ⟨_, sealG _ _ _ _ _, ⟨⟨44, x, 0, none, [], 0⟩, k, q2, z, _⟩, ⟨.undef hxv.1, trivial, hg.le (s2 := 9 + 8 * (q2 - p)) (by omega) (by omega), kok, ⟨by show p ≤ q2; omega, hrx⟩, fun w hw => ⟨hw.1, f0 hg.tk rfl, (hA w hw.1).2⟩⟩, rfl, ⟨wkE_refl _, wkE_refl _, wkH_nil _⟩⟩
 ·have h5 := h4 (by decide)
  refine wXR ?_
  refine callG (pick_c g ok q z 2 ⟨by decide, by decide⟩ h3 A hA1) [0, 1] rfl ⟨rfl, rfl, trivial⟩ rfl fun i hi3 => ?_
  obtain ⟨y, q2⟩ := i
  obtain ⟨y1, y2, y3, y4⟩ := hi3
  have y1 : y < 2 := y1
  have y2 : q ≤ q2 := y2
  have y3 : q2 ≤ g.l.length := y3
  have y4 : y ≠ 0 → q < q2 := y4
  refine wXR ?_
  refine brd_eq (fun h6 => ?_) (fun h6 => ?_)
  ·refine wXR ?_
   refine call1 (node_c _ _ _ _ _ _) ?_
   refine wXR ?_
   have hg : Gn k.l ⟨39, [], 0, none, [], 0⟩ k.l 1 1 := Gn.leaf (d := 0) rfl (Nat.zero_le _)
   refine ⟨_, sealG _ _ _ _ _, ⟨⟨39, [], 0, none, [], 0⟩, k, q2, z, _⟩, ⟨.bare (by decide), trivial, hg.le (s2 := 9 + 8 * (q2 - p)) (by omega) (by omega), kok, ⟨by show p ≤ q2; omega, y3⟩, fun w hw => ⟨hw.1, f0 hg.tk rfl, (hA w hw.1).2⟩⟩, rfl, ⟨wkE_refl _, wkE_refl _, wkH_nil _⟩⟩
  ·refine wXR ?_
   refine call1 (node_c _ _ _ _ _ _) ?_
   refine wXR ?_
   have hg : Gn k.l ⟨20, [], 0, none, [], 0⟩ k.l 1 1 := Gn.leaf (d := 0) rfl (Nat.zero_le _)
   refine ⟨_, sealG _ _ _ _ _, ⟨⟨20, [], 0, none, [], 0⟩, k, q2, z, _⟩, ⟨.zsup, trivial, hg.le (s2 := 9 + 8 * (q2 - p)) (by omega) (by omega), kok, ⟨by show p ≤ q2; omega, y3⟩, fun w hw => ⟨hw.1, f0 hg.tk rfl, (hA w hw.1).2⟩⟩, rfl, ⟨wkE_refl _, wkE_refl _, wkH_nil _⟩⟩
def fcaL : NL := [[102, 111, 111], [112], [102, 63], [120]]
theorem fcaL_v : ∀ x ∈ fcaL, naB x = true ∧ x.length ≤ 2000 := by decide +kernel
set_option maxHeartbeats 4000000 in
theorem gexpr_0 : ExprC 0 := by
 intro g ok k kok p z hp A hA
 refine ownT hm Tryz.func17 (by kernel_rfl) rfl rfl (fun _ _ => okHB_eq rfl) (fun _ _ => Nat.le_of_ble_eq_true rfl) ?_
 have hlen := ok.len
 ((conv => whnf); (repeat ((first | refine BoxN.own ?_ | refine RwN.own ?_ | refine VrN.keep ?_ | refine DrawN.calm (by decide +kernel) ?_ | refine Nd.mk (by decide +kernel) ?_ | refine Nd.mk (by omega) ?_ | (refine Nd.mk ?_ ?_; focus ((repeat' (first | exact trivial | exact wkE_refl _ | refine And.intro ?_ ?_)); done)) | refine RdN.intro _ rfl (by rfl) ?_); (conv => whnf))))
 refine LdN.one (a := some ⟨g.gb, 0, none⟩) (q := 2) (.int .i64 z) rfl (fun w hw => hw.2.1) rfl ?_
 ((conv => whnf); (repeat ((first | refine BoxN.own ?_ | refine RwN.own ?_ | refine VrN.keep ?_ | refine DrawN.calm (by decide +kernel) ?_ | refine Nd.mk (by decide +kernel) ?_ | refine Nd.mk (by omega) ?_ | (refine Nd.mk ?_ ?_; focus ((repeat' (first | exact trivial | exact wkE_refl _ | refine And.intro ?_ ?_)); done)) | refine RdN.intro _ rfl (by rfl) ?_); (conv => whnf))))
 obtain ⟨z1, hz1⟩ : ∃ z1, z1 = IntKind.i64.wrap (z + 1) := ⟨_, rfl⟩
 refine EffW.appTo (i := 1) (q := 2) (ys := [_]) (grC g p z1) 3 rfl rfl rfl rfl rfl rfl rfl (Nat.le_of_ble_eq_true rfl) (by rw [hz1]; rfl) rfl ?_
 ((conv => whnf); (repeat ((first | refine BoxN.own ?_ | refine RwN.own ?_ | refine VrN.keep ?_ | refine DrawN.calm (by decide +kernel) ?_ | refine Nd.mk (by decide +kernel) ?_ | refine Nd.mk (by omega) ?_ | (refine Nd.mk ?_ ?_; focus ((repeat' (first | exact trivial | exact wkE_refl _ | refine And.intro ?_ ?_)); done)) | refine RdN.intro _ rfl (by rfl) ?_); (conv => whnf))))
 refine wX ?_
 refine callG (gleaf_c g ok k kok p z1 hp A hA) [0, 1] rfl ⟨rfl, rfl, trivial⟩ rfl fun j hj => ?_
 obtain ⟨t, q2⟩ := j
 have hle2 : p ≤ q2 ∧ q2 ≤ g.l.length := hj.le
 refine wX ?_
 refine ⟨_, sealG _ _ _ _ _, ⟨t, k, q2, z1, _⟩, ⟨hj.v, trivial, Gn.le (s := 1) (d := 1) hj.gn (by show 1 ≤ 1 + 8 * (q2 - p); omega) (by omega), kok, hle2, fun w hw => ⟨hw.1, f0 hj.gn.tk hj.no, (hA w hw.1).2⟩⟩, rfl, ⟨wkE_refl _, wkE_refl _, wkH_nil _⟩⟩
set_option maxHeartbeats 4000000 in
theorem gexpr_1 (D : Nat) (hD : D ≤ 40) (ih : ExprC D) (hs : SomeC (D + 1)) (hq : SeqC (D + 1)) (hb : BodyC (D + 1)) (ha : ArgsC (D + 1))
  (hc : NodeKC 35 .ex isAny (D + 1) 9 (4 * (D + 1) + 3)) (hm' : NodeKC 38 .ex isAny (D + 1) 9 (4 * (D + 1) + 3)) (hbe : NodeKC 39 .ex isAny (D + 1) 9 (4 * (D + 1) + 3)) (hmo : NodeKC 41 .ex isAny (D + 1) 9 (4 * (D + 1) + 3)) : ExprC (D + 1) := by
 intro g ok k kok p z hp A hA
 refine ownT hm Tryz.func17 (by kernel_rfl) rfl rfl (fun _ _ => okHB_eq rfl) (fun _ _ => Nat.le_of_ble_eq_true rfl) ?_
 have hlen := ok.len
 ((conv => whnf); (repeat ((first | refine BoxN.own ?_ | refine RwN.own ?_ | refine VrN.keep ?_ | refine DrawN.calm (by decide +kernel) ?_ | refine Nd.mk (by decide +kernel) ?_ | refine Nd.mk (by omega) ?_ | (refine Nd.mk ?_ ?_; focus ((repeat' (first | exact trivial | exact wkE_refl _ | refine And.intro ?_ ?_)); done)) | refine RdN.intro _ rfl (by rfl) ?_); (conv => whnf))))
 refine LdN.one (a := some ⟨g.gb, 0, none⟩) (q := 2) (.int .i64 z) rfl (fun w hw => hw.2.1) rfl ?_
 ((conv => whnf); (repeat ((first | refine BoxN.own ?_ | refine RwN.own ?_ | refine VrN.keep ?_ | refine DrawN.calm (by decide +kernel) ?_ | refine Nd.mk (by decide +kernel) ?_ | refine Nd.mk (by omega) ?_ | (refine Nd.mk ?_ ?_; focus ((repeat' (first | exact trivial | exact wkE_refl _ | refine And.intro ?_ ?_)); done)) | refine RdN.intro _ rfl (by rfl) ?_); (conv => whnf))))
 obtain ⟨z1, hz1⟩ : ∃ z1, z1 = IntKind.i64.wrap (z + 1) := ⟨_, rfl⟩
 refine EffW.appTo (i := 1) (q := 2) (ys := [_]) (grC g p z1) 3 rfl rfl rfl rfl rfl rfl rfl (Nat.le_of_ble_eq_true rfl) (by rw [hz1]; rfl) rfl ?_
 ((conv => whnf); (repeat ((first | refine BoxN.own ?_ | refine RwN.own ?_ | refine VrN.keep ?_ | refine DrawN.calm (by decide +kernel) ?_ | refine Nd.mk (by decide +kernel) ?_ | refine Nd.mk (by omega) ?_ | (refine Nd.mk ?_ ?_; focus ((repeat' (first | exact trivial | exact wkE_refl _ | refine And.intro ?_ ?_)); done)) | refine RdN.intro _ rfl (by rfl) ?_); (conv => whnf))))
 refine LdN.one (a := some ⟨g.gb, 0, none⟩) (q := 1) (.int .i64 (p : Int)) rfl (fun w hw => hw.2.1) rfl ?_
 refine wX ?_
 refine LdN.one (a := some ⟨g.gb, 0, none⟩) (q := 0) (.slice g.na g.l.length g.nc) rfl (fun w hw => hw.2.1) rfl ?_
 refine wX ?_
 refine brd_dec (fun h0 => ?_) (fun h0 => ?_)
 ·refine wX ?_
  refine callG (gleaf_c g ok k kok p z1 hp A hA) [0, 1] rfl ⟨rfl, rfl, trivial⟩ rfl fun j hj => ?_
  obtain ⟨t, q2⟩ := j
  have hle2 : p ≤ q2 ∧ q2 ≤ g.l.length := hj.le
  refine wX ?_
  refine ⟨_, sealG _ _ _ _ _, ⟨t, k, q2, z1, _⟩, ⟨hj.v, trivial, Gn.le (s := 1) (d := 1) hj.gn (by show 1 ≤ 1 + 8 * (q2 - p); omega) (by omega), kok, hle2, fun w hw => ⟨hw.1, f0 hj.gn.tk hj.no, (hA w hw.1).2⟩⟩, rfl, ⟨wkE_refl _, wkE_refl _, wkH_nil _⟩⟩
 refine wX ?_
 refine LdN.one (a := some ⟨g.gb, 0, none⟩) (q := 2) (.int .i64 z1) rfl (fun w hw => hw.2.1) rfl ?_
 refine wX ?_
 refine brd_dec (fun _ => ?_) (fun _ => ?_)
 ·refine wX ?_
  refine callG (gleaf_c g ok k kok p z1 hp A hA) [0, 1] rfl ⟨rfl, rfl, trivial⟩ rfl fun j hj => ?_
  obtain ⟨t, q2⟩ := j
  have hle2 : p ≤ q2 ∧ q2 ≤ g.l.length := hj.le
  refine wX ?_
  refine ⟨_, sealG _ _ _ _ _, ⟨t, k, q2, z1, _⟩, ⟨hj.v, trivial, Gn.le (s := 1) (d := 1) hj.gn (by show 1 ≤ 1 + 8 * (q2 - p); omega) (by omega), kok, hle2, fun w hw => ⟨hw.1, f0 hj.gn.tk hj.no, (hA w hw.1).2⟩⟩, rfl, ⟨wkE_refl _, wkE_refl _, wkH_nil _⟩⟩
 have hpl : p < g.l.length := by omega
 refine wX ?_
 refine callG (pickx_c g ok p z1 20 ⟨by decide, by decide⟩ hpl A (fun w hw => (hA w hw).1)) [0, 1] rfl ⟨rfl, rfl, trivial⟩ rfl fun i hi => ?_
 obtain ⟨x, q⟩ := i
 obtain ⟨h1, h5, h3⟩ := hi
 have h1 : x < 20 := h1
 have h5 : p < q := h5
 have h3 : q ≤ g.l.length := h3
 by_cases h12 : 12 ≤ x
 ·refine wX ?_
  refine brd_eq (fun h => absurd (show (x : Int) = 0 from h) (by omega)) (fun _ => ?_)
  refine wX ?_
  refine brd_eq (fun h => absurd (show (x : Int) = 1 from h) (by omega)) (fun _ => ?_)
  refine wX ?_
  refine brd_eq (fun h => absurd (show (x : Int) = 2 from h) (by omega)) (fun _ => ?_)
  refine wX ?_
  refine brd_eq (fun h => absurd (show (x : Int) = 3 from h) (by omega)) (fun _ => ?_)
  refine wX ?_
  refine brd_eq (fun h => absurd (show (x : Int) = 4 from h) (by omega)) (fun _ => ?_)
  refine wX ?_
  refine brd_eq (fun h => absurd (show (x : Int) = 5 from h) (by omega)) (fun _ => ?_)
  refine wX ?_
  refine brd_eq (fun h => absurd (show (x : Int) = 6 from h) (by omega)) (fun _ => ?_)
  refine wX ?_
  refine brd_eq (fun h => absurd (show (x : Int) = 7 from h) (by omega)) (fun _ => ?_)
  refine wX ?_
  refine brd_eq (fun h => absurd (show (x : Int) = 8 from h) (by omega)) (fun _ => ?_)
  refine wX ?_
  refine brd_eq (fun h => absurd (show (x : Int) = 9 from h) (by omega)) (fun _ => ?_)
  refine wX ?_
  refine brd_eq (fun h => absurd (show (x : Int) = 10 from h) (by omega)) (fun _ => ?_)
  refine wX ?_
  refine brd_eq (fun h => absurd (show (x : Int) = 11 from h) (by omega)) (fun _ => ?_)
  refine wX ?_
  refine wX ?_
  refine callG (hmo g ok k kok q z1 h3 A hA) [0, 1] rfl ⟨rfl, rfl, trivial⟩ rfl fun j hj => ?_
  obtain ⟨t, k2, q2, z2, F2⟩ := j
  have hle2 : q ≤ q2 ∧ q2 ≤ g.l.length := hj.le
  refine wX ?_
  refine ⟨_, turn_refl _, ⟨t, k2, q2, z2, F2⟩, ⟨hj.v, trivial, Gn.le (s2 := 1 + 8 * (q2 - p)) (d2 := 4 * (D + 1) + 3) hj.gn (by first | (show 9 + 8 * (q2 - q) ≤ _; omega) | (show 1 + 8 * (q2 - q) ≤ _; omega)) (by omega), hj.kd, ⟨by show p ≤ q2; omega, hle2.2⟩, hj.f⟩, rfl, ⟨wkE_refl _, wkE_refl _, wkH_nil _⟩⟩
 rcases (by omega : x = 0 ∨ x = 1 ∨ x = 2 ∨ x = 3 ∨ x = 4 ∨ x = 5 ∨ x = 6 ∨ x = 7 ∨ x = 8 ∨ x = 9 ∨ x = 10 ∨ x = 11) with rfl | rfl | rfl | rfl | rfl | rfl | rfl | rfl | rfl | rfl | rfl | rfl
 ·-- a local gets an expr
  refine wXR ?_
  refine callG locals_c [] rfl trivial rfl fun rb _ => ?_
  refine wXR ?_
  refine SpecH.shut 3 rfl ?_
  refine callG (text_c g ok q z1 h3 A _ (fun w hw => (hA w hw).1) (some ⟨rb, 0, none⟩) locL _ ⟨by decide, by decide⟩ rfl (fun w hw => hw)) [0, 1, 3] rfl ⟨rfl, rfl, rfl, trivial⟩ rfl fun i hi2 => ?_
  obtain ⟨y, q2⟩ := i
  obtain ⟨hy, hy2, hy3⟩ := hi2
  have hy : y ∈ locL := hy
  have hy2 : q ≤ q2 := hy2
  have hy3 : q2 ≤ g.l.length := hy3
  have hyn := locL_nm y hy
  refine wXR ?_
  refine callG (declared_c g k kok y hyn q2 z1 A (fun w hw => (hA w hw).2)) [0, 1] rfl ⟨rfl, rfl, trivial⟩ rfl fun j hj => ?_
  obtain ⟨k2, F2⟩ := j
  obtain ⟨hk2, hka, hF2⟩ := hj
  have hka : k2.l = kadd k.l y := hka
  have hk2 : KdOk k2 := hk2
  have hF2 : ∀ w, F2 w → A w ∧ KnF k2 w := hF2
  refine wXR ?_
  refine callG (hs g ok 1 (by decide) k2 hk2 q2 z1 hy3 F2 (fun w hw => ⟨(hA w (hF2 w hw).1).1, (hF2 w hw).2⟩)) [0, 1] rfl ⟨rfl, rfl, trivial⟩ rfl fun j hj => ?_
  obtain ⟨l3, ob3, cap3, k3, q3, z3, F3⟩ := j
  obtain ⟨hj, hl3⟩ := hj
  have hl3 : l3.length = 1 := hl3
  obtain ⟨t, rfl⟩ := List.length_eq_one_iff.1 hl3
  have hle3 : q2 ≤ q3 ∧ q3 ≤ g.l.length := hj.le
  have hgs3 : Gs (kadd k.l y) [t] k3.l (1 + 8 * (q3 - q2)) (4 * (D + 1)) := by rw [← hka]; exact Gs.le (s := 1 + 8 * (q3 - q2)) (d := 4 * (D + 1) - 1) hj.gs (Nat.le_refl _) (by omega)
  have hf3 : ∀ w, F3 w → F2 w ∧ (∀ u ∈ [t], TreeF w u) ∧ KnF k3 w := hj.f
  have hrk : RowK (at0 ob3) cap3 [t] := rowK hj.nil hj.cap
  refine wXR ?_
  refine call1 (node_c _ _ _ _ _ _) ?_
  refine wXR ?_
  have hg : Gn k.l ⟨11, y, 0, at0 ob3, [t], cap3⟩ k3.l (1 + 8 * (q3 - q2) + 1) (4 * (D + 1) + 1) := Gn.set (.inl rfl) hyn hrk (by omega) hgs3
  refine ⟨_, sealG _ _ _ _ _, ⟨⟨11, y, 0, at0 ob3, [t], cap3⟩, k3, q3, z3, _⟩, ⟨.setl (nmL_lo y hyn) (hj.v t (List.mem_singleton.2 rfl)), trivial, hg.le (s2 := 1 + 8 * (q3 - p)) (by omega) (by omega), hj.kd, ⟨by show p ≤ q3; omega, hle3.2⟩, fun w hw => ?_⟩, rfl, ⟨wkE_refl _, wkE_refl _, wkH_nil _⟩⟩
  obtain ⟨f1, f2, f3⟩ := hf3 w hw.1
  exact ⟨(hF2 w f1).1, treeF hg.tk hw.2.2.1 rfl f2, f3⟩
 ·-- a local gets an expr
  refine wXR ?_
  refine callG locals_c [] rfl trivial rfl fun rb _ => ?_
  refine wXR ?_
  refine SpecH.shut 3 rfl ?_
  refine callG (text_c g ok q z1 h3 A _ (fun w hw => (hA w hw).1) (some ⟨rb, 0, none⟩) locL _ ⟨by decide, by decide⟩ rfl (fun w hw => hw)) [0, 1, 3] rfl ⟨rfl, rfl, rfl, trivial⟩ rfl fun i hi2 => ?_
  obtain ⟨y, q2⟩ := i
  obtain ⟨hy, hy2, hy3⟩ := hi2
  have hy : y ∈ locL := hy
  have hy2 : q ≤ q2 := hy2
  have hy3 : q2 ≤ g.l.length := hy3
  have hyn := locL_nm y hy
  refine wXR ?_
  refine callG (declared_c g k kok y hyn q2 z1 A (fun w hw => (hA w hw).2)) [0, 1] rfl ⟨rfl, rfl, trivial⟩ rfl fun j hj => ?_
  obtain ⟨k2, F2⟩ := j
  obtain ⟨hk2, hka, hF2⟩ := hj
  have hka : k2.l = kadd k.l y := hka
  have hk2 : KdOk k2 := hk2
  have hF2 : ∀ w, F2 w → A w ∧ KnF k2 w := hF2
  refine wXR ?_
  refine callG (hs g ok 1 (by decide) k2 hk2 q2 z1 hy3 F2 (fun w hw => ⟨(hA w (hF2 w hw).1).1, (hF2 w hw).2⟩)) [0, 1] rfl ⟨rfl, rfl, trivial⟩ rfl fun j hj => ?_
  obtain ⟨l3, ob3, cap3, k3, q3, z3, F3⟩ := j
  obtain ⟨hj, hl3⟩ := hj
  have hl3 : l3.length = 1 := hl3
  obtain ⟨t, rfl⟩ := List.length_eq_one_iff.1 hl3
  have hle3 : q2 ≤ q3 ∧ q3 ≤ g.l.length := hj.le
  have hgs3 : Gs (kadd k.l y) [t] k3.l (1 + 8 * (q3 - q2)) (4 * (D + 1)) := by rw [← hka]; exact Gs.le (s := 1 + 8 * (q3 - q2)) (d := 4 * (D + 1) - 1) hj.gs (Nat.le_refl _) (by omega)
  have hf3 : ∀ w, F3 w → F2 w ∧ (∀ u ∈ [t], TreeF w u) ∧ KnF k3 w := hj.f
  have hrk : RowK (at0 ob3) cap3 [t] := rowK hj.nil hj.cap
  refine wXR ?_
  refine call1 (node_c _ _ _ _ _ _) ?_
  refine wXR ?_
  have hg : Gn k.l ⟨11, y, 0, at0 ob3, [t], cap3⟩ k3.l (1 + 8 * (q3 - q2) + 1) (4 * (D + 1) + 1) := Gn.set (.inl rfl) hyn hrk (by omega) hgs3
  refine ⟨_, sealG _ _ _ _ _, ⟨⟨11, y, 0, at0 ob3, [t], cap3⟩, k3, q3, z3, _⟩, ⟨.setl (nmL_lo y hyn) (hj.v t (List.mem_singleton.2 rfl)), trivial, hg.le (s2 := 1 + 8 * (q3 - p)) (by omega) (by omega), hj.kd, ⟨by show p ≤ q3; omega, hle3.2⟩, fun w hw => ?_⟩, rfl, ⟨wkE_refl _, wkE_refl _, wkH_nil _⟩⟩
  obtain ⟨f1, f2, f3⟩ := hf3 w hw.1
  exact ⟨(hF2 w f1).1, treeF hg.tk hw.2.2.1 rfl f2, f3⟩
 ·-- what another function makes, handed on; hc: its contract
  refine wX ?_
  refine callG (hc g ok k kok q z1 h3 A hA) [0, 1] rfl ⟨rfl, rfl, trivial⟩ rfl fun j hj => ?_
  obtain ⟨t, k2, q2, z2, F2⟩ := j
  have hle2 : q ≤ q2 ∧ q2 ≤ g.l.length := hj.le
  refine wX ?_
  refine ⟨_, turn_refl _, ⟨t, k2, q2, z2, F2⟩, ⟨hj.v, trivial, Gn.le (s2 := 1 + 8 * (q2 - p)) (d2 := 4 * (D + 1) + 3) hj.gn (by first | (show 9 + 8 * (q2 - q) ≤ _; omega) | (show 1 + 8 * (q2 - q) ≤ _; omega)) (by omega), hj.kd, ⟨by show p ≤ q2; omega, hle2.2⟩, hj.f⟩, rfl, ⟨wkE_refl _, wkE_refl _, wkH_nil _⟩⟩
 ·-- what another function makes, handed on; hc: its contract
  refine wX ?_
  refine callG (hc g ok k kok q z1 h3 A hA) [0, 1] rfl ⟨rfl, rfl, trivial⟩ rfl fun j hj => ?_
  obtain ⟨t, k2, q2, z2, F2⟩ := j
  have hle2 : q ≤ q2 ∧ q2 ≤ g.l.length := hj.le
  refine wX ?_
  refine ⟨_, turn_refl _, ⟨t, k2, q2, z2, F2⟩, ⟨hj.v, trivial, Gn.le (s2 := 1 + 8 * (q2 - p)) (d2 := 4 * (D + 1) + 3) hj.gn (by first | (show 9 + 8 * (q2 - q) ≤ _; omega) | (show 1 + 8 * (q2 - q) ≤ _; omega)) (by omega), hj.kd, ⟨by show p ≤ q2; omega, hle2.2⟩, hj.f⟩, rfl, ⟨wkE_refl _, wkE_refl _, wkH_nil _⟩⟩
 ·-- what another function makes, handed on; hc: its contract
  refine wX ?_
  refine callG (hc g ok k kok q z1 h3 A hA) [0, 1] rfl ⟨rfl, rfl, trivial⟩ rfl fun j hj => ?_
  obtain ⟨t, k2, q2, z2, F2⟩ := j
  have hle2 : q ≤ q2 ∧ q2 ≤ g.l.length := hj.le
  refine wX ?_
  refine ⟨_, turn_refl _, ⟨t, k2, q2, z2, F2⟩, ⟨hj.v, trivial, Gn.le (s2 := 1 + 8 * (q2 - p)) (d2 := 4 * (D + 1) + 3) hj.gn (by first | (show 9 + 8 * (q2 - q) ≤ _; omega) | (show 1 + 8 * (q2 - q) ≤ _; omega)) (by omega), hj.kd, ⟨by show p ≤ q2; omega, hle2.2⟩, hj.f⟩, rfl, ⟨wkE_refl _, wkE_refl _, wkH_nil _⟩⟩
 ·refine wX ?_
  refine callG (ha g ok true k kok q z1 h3 A hA) [0, 1] rfl ⟨rfl, rfl, trivial⟩ rfl fun j hj => ?_
  obtain ⟨l2, b2, a2, cap2, k2, q4, z2, F2⟩ := j
  have hle2 : q ≤ q4 ∧ q4 ≤ g.l.length := hj.le
  have hgs2 : Gs k.l (l2 ++ b2) k2.l (8 * (q4 - q)) (4 * (D + 1) + 1) := hj.gs
  have hf2 : ∀ w, F2 w → A w ∧ LsF a2 (l2 ++ b2) w ∧ KnF k2 w := hj.f
  refine wXR ?_
  refine RwN.known (strsC fcaL) rfl fun rb => ?_
  refine wXR ?_
  refine SpecH.shut 3 rfl ?_
  refine callG (text_c g ok q4 z2 hle2.2 F2 _ (fun w hw => (hA w (hf2 w hw).1).1) (some ⟨rb, 0, none⟩) fcaL _ ⟨by decide, by decide⟩ rfl (fun w hw => hw)) [0, 1, 3] rfl ⟨rfl, rfl, rfl, trivial⟩ rfl fun i hi2 => ?_
  obtain ⟨y, q5⟩ := i
  obtain ⟨hy, hy2, hy3⟩ := hi2
  have hyv := fcaL_v y hy
  have hy2 : q4 ≤ q5 := hy2
  have hy3 : q5 ≤ g.l.length := hy3
  refine wXR ?_
  refine call1 (node_c _ _ _ _ _ _) ?_
  refine wXR ?_
  have hg : Gn k.l ⟨18, y, 0, a2, l2 ++ b2, cap2⟩ k2.l (8 * (q4 - q) + 1) (4 * (D + 1) + 2) := Gn.q rfl hj.row hyv.2 (by omega) hgs2
  refine ⟨_, sealG _ _ _ _ _, ⟨⟨18, y, 0, a2, l2 ++ b2, cap2⟩, k2, q5, z2, _⟩, ⟨V.fcall (l := l2) (b := b2) hyv.1 hj.vl hj.vb hj.b1, trivial, hg.le (s2 := 1 + 8 * (q5 - p)) (by omega) (by omega), hj.kd, ⟨by show p ≤ q5; omega, hy3⟩, fun w hw => ?_⟩, rfl, ⟨wkE_refl _, wkE_refl _, wkH_nil _⟩⟩
  obtain ⟨f1, f2, f3⟩ := hf2 w hw.1
  exact ⟨f1, treeF hg.tk f2.1 rfl f2.2, f3⟩
 ·-- what another function makes, handed on; hq: its contract
  refine wX ?_
  refine callG (hq g ok k kok q z1 h3 A hA) [0, 1] rfl ⟨rfl, rfl, trivial⟩ rfl fun j hj => ?_
  obtain ⟨t, k2, q2, z2, F2⟩ := j
  have hle2 : q ≤ q2 ∧ q2 ≤ g.l.length := hj.le
  refine wX ?_
  refine ⟨_, turn_refl _, ⟨t, k2, q2, z2, F2⟩, ⟨hj.v, trivial, Gn.le (s2 := 1 + 8 * (q2 - p)) (d2 := 4 * (D + 1) + 3) hj.gn (by first | (show 9 + 8 * (q2 - q) ≤ _; omega) | (show 1 + 8 * (q2 - q) ≤ _; omega)) (by omega), hj.kd, ⟨by show p ≤ q2; omega, hle2.2⟩, hj.f⟩, rfl, ⟨wkE_refl _, wkE_refl _, wkH_nil _⟩⟩
 ·-- an expr; the same
  refine wX ?_
  rw [low D (by omega)]
  refine callG (ih g ok k (by assumption) q z1 h3 A hA) [0, 1] rfl ⟨rfl, rfl, trivial⟩ rfl fun j6 hj6 => ?_
  obtain ⟨s6, k6, q6, z6, F6⟩ := j6
  have hls6 : q ≤ q6 ∧ q6 ≤ g.l.length := hj6.le
  have hgq6 : Gn k.l s6 k6.l (1 + 8 * (q6 - q)) (4 * (D + 1)) := Gn.le (s := 1 + 8 * (q6 - q)) (d := 4 * D + 3) hj6.gn (Nat.le_refl _) (by omega)
  have hks6 : KdOk k6 := hj6.kd
  have hvs6 : V .ex s6 := hj6.v
  have hfs6 : ∀ w, F6 w → A w ∧ TreeF w s6 ∧ KnF k6 w := hj6.f
  refine wX ?_
  refine callG (hq g ok k6 (by assumption) q6 z6 hls6.2 F6 (fun w hw => ⟨(hA w (hfs6 w hw).1).1, (hfs6 w hw).2.2⟩)) [0, 1] rfl ⟨rfl, rfl, trivial⟩ rfl fun j7 hj7 => ?_
  obtain ⟨s7, k7, q7, z7, F7⟩ := j7
  have hls7 : q6 ≤ q7 ∧ q7 ≤ g.l.length := hj7.le
  have hgq7 : Gn k6.l s7 k7.l (1 + 8 * (q7 - q6)) (4 * (D + 1)) := hj7.gn
  have hks7 : KdOk k7 := hj7.kd
  have hvs7 : V .ex s7 := hj7.v
  have hos7 : s7.op = 26 := hj7.q
  have hfs7 : ∀ w, F7 w → F6 w ∧ TreeF w s7 ∧ KnF k7 w := hj7.f
  refine wX ?_
  refine callG (hq g ok k7 (by assumption) q7 z7 hls7.2 F7 (fun w hw => ⟨(hA w (hfs6 w (hfs7 w hw).1).1).1, (hfs7 w hw).2.2⟩)) [0, 1] rfl ⟨rfl, rfl, trivial⟩ rfl fun j8 hj8 => ?_
  obtain ⟨s8, k8, q8, z8, F8⟩ := j8
  have hls8 : q7 ≤ q8 ∧ q8 ≤ g.l.length := hj8.le
  have hgq8 : Gn k7.l s8 k8.l (1 + 8 * (q8 - q7)) (4 * (D + 1)) := hj8.gn
  have hks8 : KdOk k8 := hj8.kd
  have hvs8 : V .ex s8 := hj8.v
  have hos8 : s8.op = 26 := hj8.q
  have hfs8 : ∀ w, F8 w → F7 w ∧ TreeF w s8 ∧ KnF k8 w := hj8.f
  refine wXR ?_
  refine RwN.known (nodesC [s6, s7, s8]) rfl fun nb => ?_
  refine wXR ?_
  refine call1 (node_c _ _ _ _ _ _) ?_
  refine wXR ?_
  have hg : Gn k.l ⟨27, [], 0, some ⟨nb, 0, none⟩, [s6, s7, s8], 3⟩ k8.l (1 + 8 * (q6 - q) + (1 + 8 * (q7 - q6) + (1 + 8 * (q8 - q7))) + 1) (4 * (D + 1) + 1) := Gn.q rfl (.some (Nat.le_refl 3)) (Nat.zero_le _) (by omega) (Gs.cons hgq6 (Gs.cons hgq7 hgq8.s))
  refine ⟨_, sealG _ _ _ _ _, ⟨⟨27, [], 0, some ⟨nb, 0, none⟩, [s6, s7, s8], 3⟩, k8, q8, z8, _⟩, ⟨.iff hvs6 hvs7 hos7 hvs8 hos8, trivial, hg.le (s2 := 1 + 8 * (q8 - p)) (by omega) (by omega), hks8, ⟨by show p ≤ q8; omega, hls8.2⟩, fun w hw => ?_⟩, rfl, ⟨wkE_refl _, wkE_refl _, wkH_nil _⟩⟩
  obtain ⟨f1, f2, f3⟩ := hfs8 w hw.1
  obtain ⟨f4, f5, f6⟩ := hfs7 w f1
  obtain ⟨f7, f8, f9⟩ := hfs6 w f4
  exact ⟨f7, treeF hg.tk hw.2.1 rfl (allC f8 (two_mem f5 f2)), f3⟩
 ·-- an expr; the same
  refine wX ?_
  rw [low D (by omega)]
  refine callG (ih g ok k (by assumption) q z1 h3 A hA) [0, 1] rfl ⟨rfl, rfl, trivial⟩ rfl fun j6 hj6 => ?_
  obtain ⟨s6, k6, q6, z6, F6⟩ := j6
  have hls6 : q ≤ q6 ∧ q6 ≤ g.l.length := hj6.le
  have hgq6 : Gn k.l s6 k6.l (1 + 8 * (q6 - q)) (4 * (D + 1)) := Gn.le (s := 1 + 8 * (q6 - q)) (d := 4 * D + 3) hj6.gn (Nat.le_refl _) (by omega)
  have hks6 : KdOk k6 := hj6.kd
  have hvs6 : V .ex s6 := hj6.v
  have hfs6 : ∀ w, F6 w → A w ∧ TreeF w s6 ∧ KnF k6 w := hj6.f
  refine wX ?_
  refine callG (hq g ok k6 (by assumption) q6 z6 hls6.2 F6 (fun w hw => ⟨(hA w (hfs6 w hw).1).1, (hfs6 w hw).2.2⟩)) [0, 1] rfl ⟨rfl, rfl, trivial⟩ rfl fun j7 hj7 => ?_
  obtain ⟨s7, k7, q7, z7, F7⟩ := j7
  have hls7 : q6 ≤ q7 ∧ q7 ≤ g.l.length := hj7.le
  have hgq7 : Gn k6.l s7 k7.l (1 + 8 * (q7 - q6)) (4 * (D + 1)) := hj7.gn
  have hks7 : KdOk k7 := hj7.kd
  have hvs7 : V .ex s7 := hj7.v
  have hos7 : s7.op = 26 := hj7.q
  have hfs7 : ∀ w, F7 w → F6 w ∧ TreeF w s7 ∧ KnF k7 w := hj7.f
  refine wXR ?_
  refine RwN.known (nodesC [s6, s7]) rfl fun nb => ?_
  refine wXR ?_
  refine call1 (node_c _ _ _ _ _ _) ?_
  refine wXR ?_
  have hg : Gn k.l ⟨28, [], 0, some ⟨nb, 0, none⟩, [s6, s7], 2⟩ k7.l (1 + 8 * (q6 - q) + (1 + 8 * (q7 - q6)) + 1) (4 * (D + 1) + 1) := Gn.q rfl (.some (Nat.le_refl 2)) (Nat.zero_le _) (by omega) (Gs.cons hgq6 hgq7.s)
  refine ⟨_, sealG _ _ _ _ _, ⟨⟨28, [], 0, some ⟨nb, 0, none⟩, [s6, s7], 2⟩, k7, q7, z7, _⟩, ⟨.whil (.inl rfl) hvs6 hvs7 hos7, trivial, hg.le (s2 := 1 + 8 * (q7 - p)) (by omega) (by omega), hks7, ⟨by show p ≤ q7; omega, hls7.2⟩, fun w hw => ?_⟩, rfl, ⟨wkE_refl _, wkE_refl _, wkH_nil _⟩⟩
  obtain ⟨f4, f5, f6⟩ := hfs7 w hw.1
  obtain ⟨f7, f8, f9⟩ := hfs6 w f4
  exact ⟨f7, treeF hg.tk hw.2.1 rfl (two_mem f8 f5), f6⟩
 ·-- what another function makes, handed on; hm': its contract
  refine wX ?_
  refine callG (hm' g ok k kok q z1 h3 A hA) [0, 1] rfl ⟨rfl, rfl, trivial⟩ rfl fun j hj => ?_
  obtain ⟨t, k2, q2, z2, F2⟩ := j
  have hle2 : q ≤ q2 ∧ q2 ≤ g.l.length := hj.le
  refine wX ?_
  refine ⟨_, turn_refl _, ⟨t, k2, q2, z2, F2⟩, ⟨hj.v, trivial, Gn.le (s2 := 1 + 8 * (q2 - p)) (d2 := 4 * (D + 1) + 3) hj.gn (by first | (show 9 + 8 * (q2 - q) ≤ _; omega) | (show 1 + 8 * (q2 - q) ≤ _; omega)) (by omega), hj.kd, ⟨by show p ≤ q2; omega, hle2.2⟩, hj.f⟩, rfl, ⟨wkE_refl _, wkE_refl _, wkH_nil _⟩⟩
 ·-- what another function makes, handed on; hbe: its contract
  refine wX ?_
  refine callG (hbe g ok k kok q z1 h3 A hA) [0, 1] rfl ⟨rfl, rfl, trivial⟩ rfl fun j hj => ?_
  obtain ⟨t, k2, q2, z2, F2⟩ := j
  have hle2 : q ≤ q2 ∧ q2 ≤ g.l.length := hj.le
  refine wX ?_
  refine ⟨_, turn_refl _, ⟨t, k2, q2, z2, F2⟩, ⟨hj.v, trivial, Gn.le (s2 := 1 + 8 * (q2 - p)) (d2 := 4 * (D + 1) + 3) hj.gn (by first | (show 9 + 8 * (q2 - q) ≤ _; omega) | (show 1 + 8 * (q2 - q) ≤ _; omega)) (by omega), hj.kd, ⟨by show p ≤ q2; omega, hle2.2⟩, hj.f⟩, rfl, ⟨wkE_refl _, wkE_refl _, wkH_nil _⟩⟩
 ·refine wX ?_
  refine callG (hb g ok k kok q z1 h3 A hA) [0, 1] rfl ⟨rfl, rfl, trivial⟩ rfl fun j hj => ?_
  obtain ⟨ps, s, ba, bc, bk, q4, z2, F2⟩ := j
  have hle2 : q ≤ q4 ∧ q4 ≤ g.l.length := hj.le
  have hgs : Gs k.l (ps ++ [s]) bk (1 + 8 * (q4 - q)) (4 * (D + 1)) := hj.gs
  refine wXR ?_
  refine call1 (node_c _ _ _ _ _ _) ?_
  refine wXR ?_
  have hg : Gn k.l ⟨25, [], 0, ba, ps ++ [s], bc⟩ k.l (2 + 8 * (q4 - q)) (4 * (D + 1) + 1) := (Gn.blk (.inr rfl) hj.row (by omega) hgs).le (by omega) (Nat.le_refl _)
  refine ⟨_, sealG _ _ _ _ _, ⟨⟨25, [], 0, ba, ps ++ [s], bc⟩, k, q4, z2, _⟩, ⟨.lam hj.vp hj.pk hj.vs hj.so, trivial, hg.le (s2 := 1 + 8 * (q4 - p)) (by omega) (by omega), kok, ⟨by show p ≤ q4; omega, hle2.2⟩, fun w hw => ?_⟩, rfl, ⟨wkE_refl _, wkE_refl _, wkH_nil _⟩⟩
  obtain ⟨f1, f2⟩ := hj.f w hw.1
  exact ⟨f1, treeF hg.tk f2.1 rfl f2.2, (hA w f1).2⟩
theorem gexpr_c : ∀ D, D ≤ 40 → ExprC D
 | 0, _ => gexpr_0
 | D + 1, h => by
  have hall : ∀ E, E ≤ D → ExprC E := fun E hE => gexpr_c E (by omega)
  have ih := hall D (Nat.le_refl _)
  have hs := gsome_c D (by omega) ih
  have hq := gseq_c D (by omega) ih
  have hb := gbody_c (D + 1) (gparams_c D (by omega) hall) hq
  have ha := gargs_c D (by omega) ih hb
  exact gexpr_1 D (by omega) ih hs hq hb ha (gcall_c D (by omega) hs ha) (gmatch_c D (by omega) ih hs hq (gpat_c (D + 1) (by omega))) (gbegin_c D (by omega) hs hq) (gmore_c D (by omega) ih hs hq hb ha)
end Go.Proofs.YtpikpjlhdkkigaaGreatDoor
namespace Go.AX
theorem map_add0 (a : Option Addr) : a.map (·.add 0) = a := by
 cases a with
 | none => rfl
 | some b => simp [Addr.add]
theorem ReadW.slc_ha {P : Program} {o : Oper} {s : List AV} {H : List Ent} {K : AV → Prop} {t : TypeId} {x z : Operand} {a : Option Addr} {n cap : Nat} {k : IntKind} {j : Int} (ho : o.op = .slice t x none (some z) none) (hu : slcB P t = true)
  (hx : opv s x = .c (.v (.slice a n cap))) (hz : opv s z = .c (.v (.int k j))) (hj : 0 ≤ j ∧ j ≤ (cap : Int)) (h : K (.c (.v (.slice a j.toNat cap)))) : ReadW P o s H K := by
 obtain ⟨e, inf, hu, hi⟩ := slcB_spec hu
 refine ReadW.val _ (fun cs b => by rw [ho]; simp) (by rw [ho]; simp [Op.operands, allPlain, hx, hz]) (fun w _ => ?_) h
 have e1 := plainEv_v hx
 have e2 := plainEv_v hz
 have : (Instr.sliceAt t (.slice a n cap) none (some (.int k j)) none).run P w = .ok (.slice a j.toNat cap) w := by
  have ha := map_add0 a
  simp [Instr.sliceAt, Instr.slice, run_underlying hu, Instr.sliceBounds, Instr.sliceBound, asIntOf, hj, sizeOf, typeInfo, hi, ha]
 refine run_op_slice ho ?_
 rw [e1]
 simpa [e2] using this
theorem SlAt.cut {a : Option Addr} {n m : Nat} {xs ys : List Value} {w : World} (h : SlAt a n (xs ++ ys) w) (hm : xs.length = m) (hmn : m ≤ n) : SlAt a m xs w := by
 refine ⟨hm, fun hp => h.2.1 (by omega), fun j hj => ?_⟩
 have := h.2.2 j (by omega)
 rw [List.getElem?_append_left (by omega)] at this
 exact this
end Go.AX
namespace Go.Proofs.YtpikpjlhdkkigaaGreatDoor
open Go.AX Go.RowKit Go.Tree Go.Scan
set_option maxRecDepth 20000
def isTop (t : TP) : Prop := (t.op ≠ 45 → V .ex t) ∧ (t.op = 45 → V .use t)
def allTop (l : List TP) : Prop := ∀ t ∈ l, isTop t
theorem allTop.snoc {l : List TP} {t : TP} (ht : isTop t) (h : allTop l) : allTop (l ++ [t]) := allV h (allC ht allN)
structure Grown1 (t : TP) : Prop where
 v : V .top t
 kn : ∃ k, Kn [] t k
 sz : t.sz ≤ 1700
 dp : t.dp ≤ 30
 hn : ∀ x ∈ hn t, x ∈ nmL
 tk : TreeK t
def GrownR (v : Value) (G : World → Prop) : Prop := ∃ t, v = nodeV t ∧ Grown1 t ∧ ∀ w, G w → TreeF w t
theorem sealT (F0 : World → Prop) (g : GD) (p : Nat) (z : Int) {T U V : TypeId} {cs : List CV} {sz n cap sz2 n2 cap2 : Nat} {xs ys : List Value} {a b : Option Addr} (R : List Ent) : TurnS (.fact F0 :: .blk T cs :: grE g p z :: .app U sz2 ys b n2 cap2 :: .app V sz xs a n cap :: R) (.fact (fun w => F0 w ∧ Facts R w) :: .blk T cs :: grE g p z :: .app U sz2 ys b n2 cap2 :: .app V sz xs a n cap :: R.map fun _ => .dead) :=
 turnS ⟨.inr (.inr ⟨_, rfl, fun _ hw => ⟨hw.1, facts_rest R _ rfl hw.2⟩⟩), .inr (.inl rfl), .inr (.inl rfl), .inr (.inl rfl), .inr (.inl rfl), sealed_map _ R⟩
set_option maxHeartbeats 4000000 in
theorem Grown_c (a : Option Addr) (l0 : List Int) (cap : Nat) (hcl : l0.length ≤ cap) (hna : a = none → l0 = []) : SpecF Tryz.prog 6 [.slice a l0.length cap] (fun w => SlAt a l0.length (intG l0) w) GrownR := by
 refine specF hm Tryz.func6 (by kernel_rfl) rfl rfl ?_
 refine wXB ?_
 refine BoxN.own ?_
 refine wXB ?_
 refine brd_dec (fun h => ?_) (fun h => ?_)
 ·refine wXB ?_
  refine ReadW.slc_ha (a := a) (j := 200) rfl (by kernel_rfl) rfl rfl ⟨by decide, by omega⟩ ?_
  refine wXB ?_
  have hn : (l0.take 200).length = 200 := by rw [List.length_take]; omega
  have hlen : 200 ≤ 200 := Nat.le_refl _
  have hnil : a = none → l0.take 200 = [] := fun h => by rw [hna h]; rfl
  have hcut : ∀ w, SlAt a l0.length (intG l0) w → SlAt a 200 (intG (l0.take 200)) w := fun w hw => by
   have e : intG (l0.take 200) ++ intG (l0.drop 200) = intG l0 := by unfold intG; rw [← List.map_append, List.take_append_drop]
   rw [← e] at hw
   exact SlAt.cut hw (by unfold intG; rw [List.length_map]; exact hn) (by omega)
  refine BoxN.known [.slice none 0 0, .int .i64 0, .int .i64 0] rfl fun gb => ?_
  obtain ⟨g, hgd⟩ : ∃ g : GD, g = ⟨gb, a, cap, (l0.take 200)⟩ := ⟨_, rfl⟩
  have hgb : g.gb = gb := by rw [hgd]
  have hgl : g.l = (l0.take 200) := by rw [hgd]
  have hgn : g.l.length = 200 := by rw [hgl]; try exact hn
  have ok : GOk g := ⟨by rw [hgn]; exact hlen, fun h => by rw [hgl]; rw [hgd] at h; exact hnil h⟩
  have hA : ∀ w, SlAt a l0.length (intG l0) w → NumF g w := fun w hw => by
   show SlAt g.na g.l.length (intG g.l) w
   rw [hgn, hgl, hgd]
   exact (hcut) w hw
  obtain rfl := hgb
  refine wXB ?_
  refine EffW.appTo (i := 2) (q := 0) (ys := [_, _, _]) (grC g 0 0) 3 rfl rfl rfl rfl rfl rfl rfl (Nat.le_of_ble_eq_true rfl) (by rw [grC, hgn]; try (rw [hgd]); try rfl) rfl ?_
  refine wXB ?_
  refine call1 (node_c _ _ _ _ _ _) ?_
  refine wXB ?_
  refine BoxN.known (nodeC ⟨0, [], 0, none, [], 0⟩) rfl fun nb => ?_
  refine wXB ?_
  refine EffW.appTo (i := 3) (q := 0) (ys := [_, _, _, _]) (nodeC ⟨26, [], 0, none, [], 0⟩) 4 rfl rfl rfl rfl rfl rfl rfl (Nat.le_of_ble_eq_true rfl) rfl rfl ?_
  refine wX ?_
  refine LoopN.introS SmI (fun i => GrInv allTop g (fun w => SlAt a l0.length (intG l0) w) k0 0 23 (fun _ q => 8 * q) i ∧ i.l.length ≤ 4)
   (fun ⟨l, _, _, k', _, _, _⟩ => mkS Tryz.f6.ntmps 0 [(0, .c (.v (.slice a 200 cap))), (2, .c (.lp 1 0)), (3, .c (.v (gP g))), (4, .c (.v (.pointer (some ⟨nb, 0, none⟩)))), (5, .c (.v (knV k'))), (6, .c (.v (.int .i64 (l.length : Int))))])
   (fun ⟨l, ob, cap', _, q, z', F⟩ => [.fact F, .blk ndT [.v (.int .i64 0), .v (.string (bs [])), .v (.int .i64 0), .v (.slice none 0 0)], grE g q z', .app ndT 4 (nodeC ⟨26, [], 0, at0 ob, l, cap'⟩) (some ⟨nb, 0, none⟩) 1 1, rowN4 l ob cap'])
   (fun i => 4 - i.l.length) [.app ndT 4 [] none 0 0] rfl (fun _ => rfl) (fun _ => rfl) (fun _ _ => okHB_eq rfl)
   ⟨⟨[], none, 0, k0, 0, 0, fun w => SlAt a l0.length (intG l0) w⟩, ⟨⟨(fun _ h => by cases h), Gs.nil _ _, k0_ok, ⟨Nat.le_refl _, Nat.zero_le _⟩, fun _ => rfl, Nat.le_refl _, fun w hw => ⟨hw, (fun _ h => by cases h), k0_f w⟩⟩, Nat.zero_le _⟩, ?_, _, turn_refl _, ⟨wkE_refl _, wkE_refl _, wkE_refl _, wkE_refl _, wkE_refl _, wkH_nil _⟩⟩ ?_
  ·exact wKK
  rintro ⟨l, ob, cap', k', q, z', F⟩ ⟨hi, hln⟩
  have hln : l.length ≤ 4 := hln
  have hnil' : at0 ob = none → l = [] := at0_nil hi.nil
  have hcap : l.length ≤ cap' := hi.cap
  have hle : 0 ≤ q ∧ q ≤ g.l.length := hi.le
  have hAF : ∀ w, F w → NumF g w ∧ KnF k' w := fun w hw => ⟨hA w (hi.f w hw).1, (hi.f w hw).2.2⟩
  have hgl2 := ok.len
  refine wX ?_
  refine brd_dec (fun h6 => ?_) (fun h6 => ?_)
  ·refine wX ?_
   refine LdN.one (a := some ⟨g.gb, 0, none⟩) (q := 1) (.int .i64 (q : Int)) rfl (fun w hw => hw.2.1) rfl ?_
   refine wX ?_
   refine brd_dec (fun h7 => ?_) (fun h7 => ?_)
   ·have hql : q < g.l.length := by
     rw [hgn]
     have h7 : (q : Int) < ((200 : Nat) : Int) := h7
     omega
    refine wX ?_
    refine callG (pickx_c g ok q z' 12 ⟨by decide, by decide⟩ hql F (fun w hw => (hAF w hw).1)) [0, 2] rfl ⟨rfl, rfl, trivial⟩ rfl fun i hi3 => ?_
    obtain ⟨y, q2⟩ := i
    obtain ⟨j1, j2, j3⟩ := hi3
    have j2 : q < q2 := j2
    have j3 : q2 ≤ g.l.length := j3
    refine wX ?_
    refine brd_eq (fun h8 => ?_) (fun h8 => ?_)
    ·refine wXR ?_
     refine DrawN.planC (fun w => SlAt (some ⟨nb, 0, none⟩) 4 (nodeC ⟨26, [], 0, at0 ob, l, cap'⟩) w) [0] [(1, 1), (2, 0), (3, 0), (4, 0), (5, 0)] [(6, 0), (7, 0), (8, 0)] (by decide +kernel) (fun w hw => hw.2.2.1) ?_
     refine wXP ?_
     refine ReadC.one (a := some ⟨nb, 0, none⟩) (q := 3) (.slice (at0 ob) l.length cap') rfl rfl rfl (fun w hw => hw) rfl ?_
     refine wXP ?_
     refine callG (path_c g ok q2 z' j3 F (fun w hw => ⟨(hAF w hw).1, trivial⟩)) [0, 2] rfl ⟨rfl, rfl, trivial⟩ rfl fun j hj => ?_
     obtain ⟨t, q3, F2⟩ := j
     have hle2 : q2 ≤ q3 ∧ q3 ≤ g.l.length := hj.le
     have hgt : Gn k'.l t k'.l (1 + 8 * (q3 - q2)) 2 := hj.gn k'.l
     refine wXP ?_
     refine RwN.known (nodesC [t]) rfl fun ub => ?_
     refine wXP ?_
     refine call1 (node_c _ _ _ _ _ _) ?_
     refine wXP ?_
     refine RwN.own ?_
     refine wXP ?_
     have hgu : Gn k'.l ⟨45, [], 0, some ⟨ub, 0, none⟩, [t], 1⟩ k'.l (2 + 8 * (q3 - q2)) 23 := (Gn.q (s := 1 + 8 * (q3 - q2)) (d := 2) rfl (.some (Nat.le_refl 1)) (Nat.zero_le _) (by omega) hgt.s).le (by omega) (by omega)
     have htt : isTop ⟨45, [], 0, some ⟨ub, 0, none⟩, [t], 1⟩ := ⟨fun h => absurd rfl h, fun _ => .use hj.v hj.pa⟩
     try refine Nd.mk ⟨Nat.le_refl 1, rfl, rfl⟩ ?_
     (conv => whnf)
     refine AppN.grow 4 (nodesC l) (nodeC (⟨45, [], 0, some ⟨ub, 0, none⟩, [t], 1⟩ : TP)) rfl rfl ⟨Nat.le_refl 1, ⟨by show (l.length + 1) * 56 ≤ _; omega, by show l.length + 1 < _; omega⟩, by decide⟩ fun b8 c8 g18 g28 => ?_
     refine wX ?_
     have e18 : nodesC l ++ nodeC (⟨45, [], 0, some ⟨ub, 0, none⟩, [t], 1⟩ : TP) = nodesC (l ++ [(⟨45, [], 0, some ⟨ub, 0, none⟩, [t], 1⟩ : TP)]) := by rw [nodesC_one, nodesC_app]
     have e28 : l.length + 1 = (l ++ [(⟨45, [], 0, some ⟨ub, 0, none⟩, [t], 1⟩ : TP)]).length := by simp
     refine EffW.appTo (i := 3) (q := 3) (ys := [_]) (nodeC ⟨26, [], 0, some ⟨b8, 0, none⟩, l ++ [(⟨45, [], 0, some ⟨ub, 0, none⟩, [t], 1⟩ : TP)], c8⟩) 4 rfl rfl rfl rfl rfl rfl rfl (Nat.le_of_ble_eq_true rfl) (by rw [e28]; rfl) rfl ?_
     refine wX ?_
     rw [e18, e28]
     refine ⟨⟨l ++ [⟨45, [], 0, some ⟨ub, 0, none⟩, [t], 1⟩], some b8, c8, k', q3, z', _⟩, ⟨hi.snoc (allTop.snoc htt) hgu hi.kd ⟨by omega, hle2.2⟩ (by show 8 * q + (2 + 8 * (q3 - q2)) ≤ 8 * q3; omega) (fun w hw => ?_) g18, by show (l ++ [_]).length ≤ 4; rw [← e28]; omega⟩, by show 4 - (l ++ [_]).length < 4 - l.length; rw [← e28]; omega, ?_, _, sealT _ _ _ _ _, ⟨wkE_refl _, wkE_refl _, wkE_refl _, wkE_refl _, wkE_refl _, wkH_nil _⟩⟩
     ·obtain ⟨f1, f2⟩ := hj.f w hw.1
      exact ⟨f1, treeF hgu.tk hw.2.1 rfl (one_mem f2), (hi.f w f1).2.2⟩
     ·exact wKK
    ·refine wX ?_
     refine callG (gexpr_c 5 (by decide) g ok k' hi.kd q2 z' j3 F hAF) [0, 2] rfl ⟨rfl, rfl, trivial⟩ rfl fun j hj => ?_
     obtain ⟨t, k2, q3, z2, F2⟩ := j
     have hle2 : q2 ≤ q3 ∧ q3 ≤ g.l.length := hj.le
     have hgt : Gn k'.l t k2.l (1 + 8 * (q3 - q2)) 23 := hj.gn
     have hvt : V .ex t := hj.v
     have htt : isTop t := ⟨fun _ => hvt, fun e => absurd e (hvt.opx trivial (by intro e; cases e))⟩
     refine wX ?_
     refine LdN.one (a := some ⟨nb, 0, none⟩) (q := 3) (.slice (at0 ob) l.length cap') rfl (fun w hw => hw.2.2.1) rfl ?_
     refine wX ?_
     try refine Nd.mk ⟨Nat.le_refl 1, rfl, rfl⟩ ?_
     (conv => whnf)
     refine AppN.grow 4 (nodesC l) (nodeC t) rfl rfl ⟨Nat.le_refl 1, ⟨by show (l.length + 1) * 56 ≤ _; omega, by show l.length + 1 < _; omega⟩, by decide⟩ fun b8 c8 g18 g28 => ?_
     refine wX ?_
     have e18 : nodesC l ++ nodeC t = nodesC (l ++ [t]) := by rw [nodesC_one, nodesC_app]
     have e28 : l.length + 1 = (l ++ [t]).length := by simp
     refine EffW.appTo (i := 3) (q := 3) (ys := [_]) (nodeC ⟨26, [], 0, some ⟨b8, 0, none⟩, l ++ [t], c8⟩) 4 rfl rfl rfl rfl rfl rfl rfl (Nat.le_of_ble_eq_true rfl) (by rw [e28]; rfl) rfl ?_
     refine wX ?_
     rw [e18, e28]
     refine ⟨⟨l ++ [t], some b8, c8, k2, q3, z2, _⟩, ⟨hi.snoc (allTop.snoc htt) hgt hj.kd ⟨by omega, hle2.2⟩ (by show 8 * q + (1 + 8 * (q3 - q2)) ≤ 8 * q3; omega) (fun w hw => hj.f w hw.1) g18, by show (l ++ [t]).length ≤ 4; rw [← e28]; omega⟩, by show 4 - (l ++ [t]).length < 4 - l.length; rw [← e28]; omega, ?_, _, sealT _ _ _ _ _, ⟨wkE_refl _, wkE_refl _, wkE_refl _, wkE_refl _, wkE_refl _, wkH_nil _⟩⟩
     exact wKK
   ·refine wX ?_
    refine LdN.agg (a := some ⟨nb, 0, none⟩) (q := 0) (nodeC ⟨26, [], 0, at0 ob, l, cap'⟩) rfl (fun w hw => hw.2.2.1) rfl (fun j hj => by rw [Nat.zero_add]) ?_
    refine wX ?_
    have hg : Gn [] ⟨26, [], 0, at0 ob, l, cap'⟩ k'.l (8 * q + 1) 24 := Gn.q (s := 8 * q) (d := 23) rfl ⟨hnil', hcap⟩ (Nat.zero_le _) (by omega) hi.gs
    have hsz := hg.sz
    have hdp := hg.dp
    refine fin_p (TreeF · ⟨26, [], 0, at0 ob, l, cap'⟩) ⟨⟨26, [], 0, at0 ob, l, cap'⟩, rfl, ⟨.top (fun k hk => (hi.v k hk).1) (fun k hk => (hi.v k hk).2), ⟨_, hg.kn⟩, by omega, by omega, hg.hn, hg.tk⟩, fun w hw => hw⟩ fun w hw => ?_
    exact treeF hg.tk hw.2.2.2.1 rfl (hi.f w hw.1).2.1
  ·refine wX ?_
   refine LdN.agg (a := some ⟨nb, 0, none⟩) (q := 0) (nodeC ⟨26, [], 0, at0 ob, l, cap'⟩) rfl (fun w hw => hw.2.2.1) rfl (fun j hj => by rw [Nat.zero_add]) ?_
   refine wX ?_
   have hg : Gn [] ⟨26, [], 0, at0 ob, l, cap'⟩ k'.l (8 * q + 1) 24 := Gn.q (s := 8 * q) (d := 23) rfl ⟨hnil', hcap⟩ (Nat.zero_le _) (by omega) hi.gs
   have hsz := hg.sz
   have hdp := hg.dp
   refine fin_p (TreeF · ⟨26, [], 0, at0 ob, l, cap'⟩) ⟨⟨26, [], 0, at0 ob, l, cap'⟩, rfl, ⟨.top (fun k hk => (hi.v k hk).1) (fun k hk => (hi.v k hk).2), ⟨_, hg.kn⟩, by omega, by omega, hg.hn, hg.tk⟩, fun w hw => hw⟩ fun w hw => ?_
   exact treeF hg.tk hw.2.2.2.1 rfl (hi.f w hw.1).2.1
 ·have hn : l0.length = l0.length := rfl
  have hlen : l0.length ≤ 200 := by omega
  have hnil := hna
  refine wXB ?_
  refine BoxN.known [.slice none 0 0, .int .i64 0, .int .i64 0] rfl fun gb => ?_
  obtain ⟨g, hgd⟩ : ∃ g : GD, g = ⟨gb, a, cap, l0⟩ := ⟨_, rfl⟩
  have hgb : g.gb = gb := by rw [hgd]
  have hgl : g.l = l0 := by rw [hgd]
  have hgn : g.l.length = l0.length := by rw [hgl]; try exact hn
  have ok : GOk g := ⟨by rw [hgn]; exact hlen, fun h => by rw [hgl]; rw [hgd] at h; exact hnil h⟩
  have hA : ∀ w, SlAt a l0.length (intG l0) w → NumF g w := fun w hw => by
   show SlAt g.na g.l.length (intG g.l) w
   rw [hgn, hgl, hgd]
   exact ((fun _ hw => hw)) w hw
  obtain rfl := hgb
  refine wXB ?_
  refine EffW.appTo (i := 2) (q := 0) (ys := [_, _, _]) (grC g 0 0) 3 rfl rfl rfl rfl rfl rfl rfl (Nat.le_of_ble_eq_true rfl) (by rw [grC, hgn]; try (rw [hgd]); try rfl) rfl ?_
  refine wXB ?_
  refine call1 (node_c _ _ _ _ _ _) ?_
  refine wXB ?_
  refine BoxN.known (nodeC ⟨0, [], 0, none, [], 0⟩) rfl fun nb => ?_
  refine wXB ?_
  refine EffW.appTo (i := 3) (q := 0) (ys := [_, _, _, _]) (nodeC ⟨26, [], 0, none, [], 0⟩) 4 rfl rfl rfl rfl rfl rfl rfl (Nat.le_of_ble_eq_true rfl) rfl rfl ?_
  refine wX ?_
  refine LoopN.introS SmI (fun i => GrInv allTop g (fun w => SlAt a l0.length (intG l0) w) k0 0 23 (fun _ q => 8 * q) i ∧ i.l.length ≤ 4)
   (fun ⟨l, _, _, k', _, _, _⟩ => mkS Tryz.f6.ntmps 0 [(0, .c (.v (.slice a l0.length cap))), (2, .c (.lp 1 0)), (3, .c (.v (gP g))), (4, .c (.v (.pointer (some ⟨nb, 0, none⟩)))), (5, .c (.v (knV k'))), (6, .c (.v (.int .i64 (l.length : Int))))])
   (fun ⟨l, ob, cap', _, q, z', F⟩ => [.fact F, .blk ndT [.v (.int .i64 0), .v (.string (bs [])), .v (.int .i64 0), .v (.slice none 0 0)], grE g q z', .app ndT 4 (nodeC ⟨26, [], 0, at0 ob, l, cap'⟩) (some ⟨nb, 0, none⟩) 1 1, rowN4 l ob cap'])
   (fun i => 4 - i.l.length) [.app ndT 4 [] none 0 0] rfl (fun _ => rfl) (fun _ => rfl) (fun _ _ => okHB_eq rfl)
   ⟨⟨[], none, 0, k0, 0, 0, fun w => SlAt a l0.length (intG l0) w⟩, ⟨⟨(fun _ h => by cases h), Gs.nil _ _, k0_ok, ⟨Nat.le_refl _, Nat.zero_le _⟩, fun _ => rfl, Nat.le_refl _, fun w hw => ⟨hw, (fun _ h => by cases h), k0_f w⟩⟩, Nat.zero_le _⟩, ?_, _, turn_refl _, ⟨wkE_refl _, wkE_refl _, wkE_refl _, wkE_refl _, wkE_refl _, wkH_nil _⟩⟩ ?_
  ·exact wKK
  rintro ⟨l, ob, cap', k', q, z', F⟩ ⟨hi, hln⟩
  have hln : l.length ≤ 4 := hln
  have hnil' : at0 ob = none → l = [] := at0_nil hi.nil
  have hcap : l.length ≤ cap' := hi.cap
  have hle : 0 ≤ q ∧ q ≤ g.l.length := hi.le
  have hAF : ∀ w, F w → NumF g w ∧ KnF k' w := fun w hw => ⟨hA w (hi.f w hw).1, (hi.f w hw).2.2⟩
  have hgl2 := ok.len
  refine wX ?_
  refine brd_dec (fun h6 => ?_) (fun h6 => ?_)
  ·refine wX ?_
   refine LdN.one (a := some ⟨g.gb, 0, none⟩) (q := 1) (.int .i64 (q : Int)) rfl (fun w hw => hw.2.1) rfl ?_
   refine wX ?_
   refine brd_dec (fun h7 => ?_) (fun h7 => ?_)
   ·have hql : q < g.l.length := by
     rw [hgn]
     have h7 : (q : Int) < ((l0.length : Nat) : Int) := h7
     omega
    refine wX ?_
    refine callG (pickx_c g ok q z' 12 ⟨by decide, by decide⟩ hql F (fun w hw => (hAF w hw).1)) [0, 2] rfl ⟨rfl, rfl, trivial⟩ rfl fun i hi3 => ?_
    obtain ⟨y, q2⟩ := i
    obtain ⟨j1, j2, j3⟩ := hi3
    have j2 : q < q2 := j2
    have j3 : q2 ≤ g.l.length := j3
    refine wX ?_
    refine brd_eq (fun h8 => ?_) (fun h8 => ?_)
    ·refine wXR ?_
     refine DrawN.planC (fun w => SlAt (some ⟨nb, 0, none⟩) 4 (nodeC ⟨26, [], 0, at0 ob, l, cap'⟩) w) [0] [(1, 1), (2, 0), (3, 0), (4, 0), (5, 0)] [(6, 0), (7, 0), (8, 0)] (by decide +kernel) (fun w hw => hw.2.2.1) ?_
     refine wXP ?_
     refine ReadC.one (a := some ⟨nb, 0, none⟩) (q := 3) (.slice (at0 ob) l.length cap') rfl rfl rfl (fun w hw => hw) rfl ?_
     refine wXP ?_
     refine callG (path_c g ok q2 z' j3 F (fun w hw => ⟨(hAF w hw).1, trivial⟩)) [0, 2] rfl ⟨rfl, rfl, trivial⟩ rfl fun j hj => ?_
     obtain ⟨t, q3, F2⟩ := j
     have hle2 : q2 ≤ q3 ∧ q3 ≤ g.l.length := hj.le
     have hgt : Gn k'.l t k'.l (1 + 8 * (q3 - q2)) 2 := hj.gn k'.l
     refine wXP ?_
     refine RwN.known (nodesC [t]) rfl fun ub => ?_
     refine wXP ?_
     refine call1 (node_c _ _ _ _ _ _) ?_
     refine wXP ?_
     refine RwN.own ?_
     refine wXP ?_
     have hgu : Gn k'.l ⟨45, [], 0, some ⟨ub, 0, none⟩, [t], 1⟩ k'.l (2 + 8 * (q3 - q2)) 23 := (Gn.q (s := 1 + 8 * (q3 - q2)) (d := 2) rfl (.some (Nat.le_refl 1)) (Nat.zero_le _) (by omega) hgt.s).le (by omega) (by omega)
     have htt : isTop ⟨45, [], 0, some ⟨ub, 0, none⟩, [t], 1⟩ := ⟨fun h => absurd rfl h, fun _ => .use hj.v hj.pa⟩
     try refine Nd.mk ⟨Nat.le_refl 1, rfl, rfl⟩ ?_
     (conv => whnf)
     refine AppN.grow 4 (nodesC l) (nodeC (⟨45, [], 0, some ⟨ub, 0, none⟩, [t], 1⟩ : TP)) rfl rfl ⟨Nat.le_refl 1, ⟨by show (l.length + 1) * 56 ≤ _; omega, by show l.length + 1 < _; omega⟩, by decide⟩ fun b8 c8 g18 g28 => ?_
     refine wX ?_
     have e18 : nodesC l ++ nodeC (⟨45, [], 0, some ⟨ub, 0, none⟩, [t], 1⟩ : TP) = nodesC (l ++ [(⟨45, [], 0, some ⟨ub, 0, none⟩, [t], 1⟩ : TP)]) := by rw [nodesC_one, nodesC_app]
     have e28 : l.length + 1 = (l ++ [(⟨45, [], 0, some ⟨ub, 0, none⟩, [t], 1⟩ : TP)]).length := by simp
     refine EffW.appTo (i := 3) (q := 3) (ys := [_]) (nodeC ⟨26, [], 0, some ⟨b8, 0, none⟩, l ++ [(⟨45, [], 0, some ⟨ub, 0, none⟩, [t], 1⟩ : TP)], c8⟩) 4 rfl rfl rfl rfl rfl rfl rfl (Nat.le_of_ble_eq_true rfl) (by rw [e28]; rfl) rfl ?_
     refine wX ?_
     rw [e18, e28]
     refine ⟨⟨l ++ [⟨45, [], 0, some ⟨ub, 0, none⟩, [t], 1⟩], some b8, c8, k', q3, z', _⟩, ⟨hi.snoc (allTop.snoc htt) hgu hi.kd ⟨by omega, hle2.2⟩ (by show 8 * q + (2 + 8 * (q3 - q2)) ≤ 8 * q3; omega) (fun w hw => ?_) g18, by show (l ++ [_]).length ≤ 4; rw [← e28]; omega⟩, by show 4 - (l ++ [_]).length < 4 - l.length; rw [← e28]; omega, ?_, _, sealT _ _ _ _ _, ⟨wkE_refl _, wkE_refl _, wkE_refl _, wkE_refl _, wkE_refl _, wkH_nil _⟩⟩
     ·obtain ⟨f1, f2⟩ := hj.f w hw.1
      exact ⟨f1, treeF hgu.tk hw.2.1 rfl (one_mem f2), (hi.f w f1).2.2⟩
     ·exact wKK
    ·refine wX ?_
     refine callG (gexpr_c 5 (by decide) g ok k' hi.kd q2 z' j3 F hAF) [0, 2] rfl ⟨rfl, rfl, trivial⟩ rfl fun j hj => ?_
     obtain ⟨t, k2, q3, z2, F2⟩ := j
     have hle2 : q2 ≤ q3 ∧ q3 ≤ g.l.length := hj.le
     have hgt : Gn k'.l t k2.l (1 + 8 * (q3 - q2)) 23 := hj.gn
     have hvt : V .ex t := hj.v
     have htt : isTop t := ⟨fun _ => hvt, fun e => absurd e (hvt.opx trivial (by intro e; cases e))⟩
     refine wX ?_
     refine LdN.one (a := some ⟨nb, 0, none⟩) (q := 3) (.slice (at0 ob) l.length cap') rfl (fun w hw => hw.2.2.1) rfl ?_
     refine wX ?_
     try refine Nd.mk ⟨Nat.le_refl 1, rfl, rfl⟩ ?_
     (conv => whnf)
     refine AppN.grow 4 (nodesC l) (nodeC t) rfl rfl ⟨Nat.le_refl 1, ⟨by show (l.length + 1) * 56 ≤ _; omega, by show l.length + 1 < _; omega⟩, by decide⟩ fun b8 c8 g18 g28 => ?_
     refine wX ?_
     have e18 : nodesC l ++ nodeC t = nodesC (l ++ [t]) := by rw [nodesC_one, nodesC_app]
     have e28 : l.length + 1 = (l ++ [t]).length := by simp
     refine EffW.appTo (i := 3) (q := 3) (ys := [_]) (nodeC ⟨26, [], 0, some ⟨b8, 0, none⟩, l ++ [t], c8⟩) 4 rfl rfl rfl rfl rfl rfl rfl (Nat.le_of_ble_eq_true rfl) (by rw [e28]; rfl) rfl ?_
     refine wX ?_
     rw [e18, e28]
     refine ⟨⟨l ++ [t], some b8, c8, k2, q3, z2, _⟩, ⟨hi.snoc (allTop.snoc htt) hgt hj.kd ⟨by omega, hle2.2⟩ (by show 8 * q + (1 + 8 * (q3 - q2)) ≤ 8 * q3; omega) (fun w hw => hj.f w hw.1) g18, by show (l ++ [t]).length ≤ 4; rw [← e28]; omega⟩, by show 4 - (l ++ [t]).length < 4 - l.length; rw [← e28]; omega, ?_, _, sealT _ _ _ _ _, ⟨wkE_refl _, wkE_refl _, wkE_refl _, wkE_refl _, wkE_refl _, wkH_nil _⟩⟩
     exact wKK
   ·refine wX ?_
    refine LdN.agg (a := some ⟨nb, 0, none⟩) (q := 0) (nodeC ⟨26, [], 0, at0 ob, l, cap'⟩) rfl (fun w hw => hw.2.2.1) rfl (fun j hj => by rw [Nat.zero_add]) ?_
    refine wX ?_
    have hg : Gn [] ⟨26, [], 0, at0 ob, l, cap'⟩ k'.l (8 * q + 1) 24 := Gn.q (s := 8 * q) (d := 23) rfl ⟨hnil', hcap⟩ (Nat.zero_le _) (by omega) hi.gs
    have hsz := hg.sz
    have hdp := hg.dp
    refine fin_p (TreeF · ⟨26, [], 0, at0 ob, l, cap'⟩) ⟨⟨26, [], 0, at0 ob, l, cap'⟩, rfl, ⟨.top (fun k hk => (hi.v k hk).1) (fun k hk => (hi.v k hk).2), ⟨_, hg.kn⟩, by omega, by omega, hg.hn, hg.tk⟩, fun w hw => hw⟩ fun w hw => ?_
    exact treeF hg.tk hw.2.2.2.1 rfl (hi.f w hw.1).2.1
  ·refine wX ?_
   refine LdN.agg (a := some ⟨nb, 0, none⟩) (q := 0) (nodeC ⟨26, [], 0, at0 ob, l, cap'⟩) rfl (fun w hw => hw.2.2.1) rfl (fun j hj => by rw [Nat.zero_add]) ?_
   refine wX ?_
   have hg : Gn [] ⟨26, [], 0, at0 ob, l, cap'⟩ k'.l (8 * q + 1) 24 := Gn.q (s := 8 * q) (d := 23) rfl ⟨hnil', hcap⟩ (Nat.zero_le _) (by omega) hi.gs
   have hsz := hg.sz
   have hdp := hg.dp
   refine fin_p (TreeF · ⟨26, [], 0, at0 ob, l, cap'⟩) ⟨⟨26, [], 0, at0 ob, l, cap'⟩, rfl, ⟨.top (fun k hk => (hi.v k hk).1) (fun k hk => (hi.v k hk).2), ⟨_, hg.kn⟩, by omega, by omega, hg.hn, hg.tk⟩, fun w hw => hw⟩ fun w hw => ?_
   exact treeF hg.tk hw.2.2.2.1 rfl (hi.f w hw.1).2.1
end Go.Proofs.YtpikpjlhdkkigaaGreatDoor
namespace Go.Proofs.YtpikpjlhdkkigaaGreatDoor
open Go.AX Go.RowKit Go.Tree Go.Scan
set_option maxRecDepth 20000
theorem plsG_get (l : List Pl) (i j : Nat) (hj : j < 2) {p : Pl} (hp : l[i]? = some p) : (plsC l)[i * 2 + j]? = (plC p)[j]? := by
 unfold plsC
 rw [flat_get (g := plC) (m := 2) (fun _ => rfl) l i j hj, hp]
 rfl
theorem grown_fit {t : TP} (h : Grown1 t) : Fit 3000 1 [t] := ⟨by have := h.sz; rw [szs_one]; omega, fun k hk => by
 rw [List.mem_singleton.1 hk]
 have := h.dp
 omega⟩
theorem grown_ch : Ch [[]] [0] := ⟨by simp, fun s hs => by rw [List.mem_singleton.1 hs]; decide⟩
theorem grown_un {t : TP} (h : Grown1 t) : (whole t).un = false := by
 obtain ⟨k, hk⟩ := h.kn
 exact (hk [0] [[]] grown_ch fun x hx => by cases hx).1
theorem grown_chk {t : TP} (h : Grown1 t) : chkV t = 0 := by
 rw [chkV, if_pos (grown_fit h), if_neg (by rw [grown_un h]; decide)]
theorem grown_pl {t : TP} (h : Grown1 t) : PlOk (whole t).nm (whole t).pl := h.v.good [0] [[]] grown_ch (grown_un h)
set_option maxHeartbeats 4000000 in
theorem TreePlaces_c (a : Option Addr) (l0 : List Int) (cap : Nat) (hcl : l0.length ≤ cap) (hna : a = none → l0 = []) : ∀ H, (∀ w, Facts H w → ScanF w ∧ SlAt a l0.length (intG l0) w) → SpecH Tryz.prog 3 (pvs [.slice a l0.length cap]) H (Ret (.bool true) H) := by
 refine factC hm Tryz.func3 (by kernel_rfl) rfl rfl ?_
 refine wX ?_
 refine SpecF.call (Grown_c a l0 cap hcl hna) (fun w hw => hw.1.2) fun v G1 hR => ?_
 obtain ⟨t, rfl, ht, hG1⟩ := hR
 have hchk := grown_chk ht
 refine wX ?_
 refine SpecF.call (Scopes_c t ht.tk fun _ => ht.v) (fun w hw => ⟨hw.1.1, hG1 w hw.2.1⟩) fun v G2 hR => ?_
 unfold ScopesR at hR
 rw [if_pos hchk] at hR
 obtain ⟨sc, sa, scap, rfl, hnm, hsc, hs1, hsok, hsn, hG2⟩ := hR
 refine wX ?_
 refine SpecF.call (Resolve_c t ht.tk fun _ => ht.v) (fun w hw => ⟨hw.1.1, hG1 w hw.2.1⟩) fun v G3 hR => ?_
 unfold PlacesR at hR
 rw [if_pos hchk] at hR
 obtain ⟨pa, pcap, rfl, hp1, hpn, hG3⟩ := hR
 have hpl := grown_pl ht
 rw [← hnm] at hpl
 generalize (whole t).pl = pl at hp1 hpn hG3 hpl ⊢
 refine wX ?_
 refine loopS Nat (fun i => i ≤ pl.length) (fun i => mkS Tryz.f3.ntmps 0 [(2, .c (.v (.bool false))), (4, .c (.v (.slice sa sc.length scap))), (6, .c (.v (.slice pa pl.length pcap))), (8, .c (.v (.int .i64 (i : Int))))]) (fun i => pl.length - i) rfl (fun _ => rfl) 0 (Nat.zero_le _) ?_ fun i hi => ?_
 ·exact wKK
 refine wX ?_
 refine brd_dec (fun h1 => ?_) (fun h1 => ?_)
 ·obtain ⟨p, hp⟩ : ∃ p, pl[i]? = some p := ⟨_, List.getElem?_eq_getElem (by omega)⟩
  have hsa := isT hpn hp
  obtain ⟨o1, o2⟩ := hpl p (List.mem_of_getElem? hp)
  have o1 : p.1 < sc.length := by rw [nmS, List.length_map] at o1; exact o1
  obtain ⟨d, hd⟩ : ∃ d, sc[p.1]? = some d := ⟨_, List.getElem?_eq_getElem o1⟩
  rw [nm_at hd] at o2
  have hdm := List.mem_of_getElem? hd
  have hss := isT hsn hd
  refine wX ?_
  refine Nd.mk ⟨hsa, by omega, by omega⟩ ?_
  refine wX ?_
  refine LdN.fld (.int .i64 (p.1 : Int)) rfl (fun w hw => hG3 w hw.2.2.2.1) (by rw [Int.toNat_natCast]; exact plsG_get pl i 0 (by decide) hp) ?_
  refine wX ?_
  refine Nd.mk ⟨hsa, by omega, by omega⟩ ?_
  refine wX ?_
  refine LdN.fld (.int .i64 (p.1 : Int)) rfl (fun w hw => hG3 w hw.2.2.2.1) (by rw [Int.toNat_natCast]; exact plsG_get pl i 0 (by decide) hp) ?_
  refine wX ?_
  refine brd_dec (fun h => absurd (show (p.1 : Int) ≥ (sc.length : Int) from h) (by omega)) (fun _ => ?_)
  refine wX ?_
  refine Nd.mk ⟨hsa, by omega, by omega⟩ ?_
  refine wX ?_
  refine LdN.fld (.int .i64 (p.2 : Int)) rfl (fun w hw => hG3 w hw.2.2.2.1) (by rw [Int.toNat_natCast]; exact plsG_get pl i 1 (by decide) hp) ?_
  refine wX ?_
  refine Nd.mk ⟨hsa, by omega, by omega⟩ ?_
  refine wX ?_
  refine LdN.fld (.int .i64 (p.2 : Int)) rfl (fun w hw => hG3 w hw.2.2.2.1) (by rw [Int.toNat_natCast]; exact plsG_get pl i 1 (by decide) hp) ?_
  refine wX ?_
  refine Nd.mk ⟨hsa, by omega, by omega⟩ ?_
  refine wX ?_
  refine LdN.fld (.int .i64 (p.1 : Int)) rfl (fun w hw => hG3 w hw.2.2.2.1) (by rw [Int.toNat_natCast]; exact plsG_get pl i 0 (by decide) hp) ?_
  refine wX ?_
  refine Nd.mk ⟨hss, by omega, by omega⟩ ?_
  refine wX ?_
  refine LdN.one (.slice (at0 d.na) d.l.length d.nc) rfl (fun w hw => (hG2 w hw.2.2.1).1) (by rw [Int.toNat_natCast]; show (slsC sc)[p.1 * 1]? = _; rw [Nat.mul_one, slsC, List.getElem?_map, hd]; rfl) ?_
  refine wX ?_
  refine brd_dec (fun h => absurd (show (p.2 : Int) ≥ (d.l.length : Int) from h) (by omega)) (fun _ => ?_)
  refine wX ?_
  refine ⟨i + 1, by show i + 1 ≤ _; omega, by show pl.length - (i + 1) < pl.length - i; omega, ?_, wHH⟩
  (repeat' (first | exact trivial | refine And.intro (by with_reducible rfl) ?_ | (with_reducible exact wkC_refl _) | (with_reducible exact wkCs_refl _) | refine And.intro ?_ ?_))
  all_goals first | rfl | exact av_int (by omega) | exact av_int (by rw [wrap_i64 (by omega)]; omega)
 ·refine wX ?_
  refine call1 (sane15_c _ (fun w hw => hw.1.1)) ?_
  exact wZ
end Go.Proofs.YtpikpjlhdkkigaaGreatDoor
namespace Go.Proofs.YtpikpjlhdkkigaaGreatDoor
open Go.ChangeShapes Go.WideShapes Go.ChangeAt Go.RowKit Go.AX
set_option maxRecDepth 100000
namespace TreePlaces
theorem own : ownKnob Tryz.prog.godebug = none := own0
theorem walk {H : Type} {enc : TypeId × Value → H} (W : World) (base : Nat) (args : Array Value) (ds : List (DataW H)) (p : List MemPlace) (k : Known enc Tryz.prog Tryz.f3 W base args ds p) (_hL : laidMetH Tryz.prog laid3 W) : Walk Tryz.prog 3 args W := by
 obtain ⟨u, rfl⟩ := arr1 (trodAll_len k.trod).2
 obtain ⟨a, l, cap, rfl, ⟨_, ha, hs⟩, hcap, _⟩ := k.low.ints (e := 3) (i := .i64) 0 rfl rfl (by kernel_rfl) (by kernel_rfl) (by kernel_rfl) (by decide +kernel)
 exact walkH [.fact fun w => ScanF w ∧ SlAt a l.length (intG l) w] (fun _ he => ⟨_, List.mem_singleton.1 he, (scan_imm (scan_of k.shaped _hL)).and hs⟩) (TreePlaces_c a l cap hcap (fun h => by
  rcases ha with ha | ha
  ·rw [h] at ha; cases ha
  ·exact List.length_eq_zero_iff.1 ha) _ fun w hw => hw.1)
theorem lifted (os : Os) (started : os.Started) (H : Type) (enc : TypeId × Value → H) :
  ReturnsInHanded {} Tryz.checked os 3 .any (fun w args => (Rows.treePlacesSpec.pre enc Tryz.prog Tryz.f3 [] false w args ∧ laidMetH Tryz.prog laid3 w) ∧ sizedMet enc Tryz.prog Tryz.f3 (OpenSpec.ofChange Rows.treePlacesSpec) false w args) (Rows.treePlacesSpec.post enc Tryz.prog Tryz.f3 false true false false) := by
 refine liftS (C := Tryz.checked) own started (by kernel_rfl) Tryz.func3
  (ChangeSpec.witness_shaped (enc := enc) (C := Tryz.checked) (os := os) (X := fun w _ => laidMetH Tryz.prog laid3 w) false (World.laidAll Tryz.prog os laid3) #[.slice none 0 0] 8 (World.laidAll_os _ _ _) (World.shaped_of_ZipB (by kernel_rfl) (by kernel_rfl)) (by kernel_rfl) (by kernel_rfl) (by kernel_rfl) (door_met os _))
  laidOut rfl (t := _) rfl (by kernel_rfl) (by kernel_rfl) ?_ walk
 intro ds hd
 match ds, hd with
 | [d0], _ => rfl
theorem over : Rows.treePlacesRow.holds Tryz.pinned (OpenSpec.ofChange Rows.treePlacesSpec) :=
 OpenClaim.holds_of_wide 3 Tryz.f3 rfl rfl rfl rfl rfl rfl rfl ⟨rfl, rfl, rfl, rfl, rfl⟩ rfl rfl rfl rfl rfl (by kernel_rfl) Tryz.func3 (by kernel_rfl)
  (of_decide_eq_true (by kernel_rfl)) (by unfold Func.isWrapper; first | (rw [if_pos (by decide +kernel)]; kernel_rfl) | (rw [if_neg (by decide +kernel)]; exact ⟨rfl, rfl⟩))
  (fun os started H enc _ => lifted os started H enc)
theorem proved : Rows.TreePlacesCardSaid :=
 Claim7.holds_tied_plain_at .later [] [.listed, .data] true (true, "c70e3fd3eb38bbba570cdd618e26b8a318203a80d4059d4e3311ee86faec173c") false
  over (fun _ h => by cases h) (by kernel_rfl) (fun _ h => by cases h) treePlaces_row_tie rfl ⟨rfl, rfl⟩ (by kernel_rfl) rfl
  (fun f fn hf hfn => by
   obtain rfl : f = 3 := Option.some.inj ((show Tryz.prog.funcNamed "cabochon/cabochonlaw15.TreePlaces" = some 3 by kernel_rfl).symm.trans hf) |>.symm
   obtain rfl : fn = Tryz.f3 := (Option.some.inj (Tryz.func3.symm.trans hfn)).symm
   exact ⟨by kernel_rfl, fun j t ht => by
    have hm : t ∈ Tryz.f3.params.toList := by simpa using Array.mem_of_getElem? ht
    have hall : (Tryz.f3.params.toList.all fun u => !Tryz.prog.wantsStandIn u) = true := by kernel_rfl
    exact (show Tryz.prog.wantsStandIn t = false by simpa using List.all_eq_true.1 hall t hm)⟩)
  (by kernel_rfl)
#print axioms proved
end TreePlaces
end Go.Proofs.YtpikpjlhdkkigaaGreatDoor
